/- Own texts, put together by wip/bundle.py: VC7, VT4, VR1, VR4, VW13. -/
import Derived.Test.YtnklncinjahckaaDoorBNOwnB
import Derived.Test.YtnklncinjahckaaDoorBNOwnC
import Derived.Test.YtnklncinjahckaaDoorBNOwnR
import Derived.Test.YtnklncinjahckaaDoorBNOwnS
import Derived.Test.YtnklncinjahckaaDoorBNOwnV3
import Derived.Test.YtnklncinjahckaaDoorBNOwnZ2
set_option linter.unusedVariables false
set_option linter.unusedSimpArgs false
namespace Go.Proofs.YtnklncinjahckaaDoor
section
open Go.RowKit
set_option maxRecDepth 100000
set_option maxHeartbeats 4000000
attribute [local irreducible] den denX z0s z1h
noncomputable def z7i : z9 := spD (fun _ : List (List UInt8) × List (List UInt8) => True) fun x => decide (x.1 = x.2)
theorem zrl (l m : List (List UInt8)) : z7i [.l 1 (l.map z1m), .l 1 (m.map z1m)] = some [.b (decide (l = m))] := z01 (f := fun x : List (List UInt8) × List (List UInt8) => decide (x.1 = x.2)) (l, m) trivial
attribute [local irreducible] z0h spD
def zwd : T :=
 .lets [.idx (.v 1) (.v 7) 0] [] (.lets [.bin .neq (.v 9) (.v 10)] [] (.ite (.v 11) (.ret [.c (.b false)]) (.lets [.bin .add (.v 7) (.c (.i .i64 1))] [] (.again 0 [.v 6, .v 12]))))
def zwe : T :=
 .lets [.bin .lss (.v 7) (.v 5)] [] (.ite (.v 8) (.lets [] [.inr 1 (.v 0) (.v 7)] (.lets [.idx (.v 0) (.v 7) 0] [] (.lets [] [.inr 1 (.v 1) (.v 7)] zwd))) (.ret [.c (.b
 true)]))
def zwf : T :=
 .lets [.len (.v 1)] [] (.lets [.bin .neq (.v 2) (.v 3)] [] (.ite (.v 4) (.ret [.c (.b false)]) (.lets [.len (.v 0)] [] (.loop [.c (.b false), .c (.i .i64 0)] zwe))))
def zfo : T :=
 .lets [.len (.v 0)] [] zwf
theorem z01t : Meets Tryd.prog z7i 9 ⟨[.one, .one], [(false, [.scal])], true⟩ := by
 refine zy (sp := (z0v [])) (sigs := z11) (cut := []) (hints := [⟨4, [.t 4, .t 13]⟩]) (fn := Tryd.f9) (t := zfo) (by kernel_rfl) (by kernel_rfl) (by kernel_rfl) ?_ ?_
 ·exact (z0m (L := []) trivial)
 ·rintro ds rs hok h
  obtain ⟨⟨l, m⟩, -, rfl, rfl⟩ := z02 h
  clear h
  have hll := zw3 (hok (.l 1 (l.map z1m)) (List.mem_cons_self ..))
  refine ⟨⟨l.length + 1, ?_⟩, z0c rfl⟩
  show den _ _ zfo [.l 1 (l.map z1m), .l 1 (m.map z1m)] [] = ret (decide (l = m))
  rw [z9t]
  unfold zfo
  repeat' (first | refine dq1 ?_ | refine dqc ?_ | refine dqm ?_ | exact z4 rfl rfl | ((first | refine tR ?_ ?_ | refine tB ?_ ?_ | refine tC ?_ ?_ | refine tN ?_ ?_ | refine tF ?_ ?_ | refine tG ?_ ?_ | refine tP ?_ ?_ | refine tQ ?_ ?_ | refine tA ?_ ?_ | refine tO ?_ ?_ | refine tU ?_ ?_ | refine tV ?_ ?_) <;> intro h) | refine dqT ?_ | refine dqF ?_ | refine z7 rfl ?_ | refine z6 rfl ?_ | refine zg ?_ | refine zh ?_)
  have hlm : l.length = m.length := by omega
  (refine z0q (fun (_ : Unit) k => [.b false, I k]) (fun (_ : Unit) k (r : List (List UInt8)) => decide (r = m.drop k)) (fun _ _ => True) () l ?_ ?_ ?_ ?_ ?_; rfl; exact trivial; first | exact Nat.lt_succ_self _ | omega)
  ·rintro _ k x r hx hd hk - again hag
   have hy : m[k]? = some (m[k]'(by omega)) := List.getElem?_eq_getElem (by omega)
   have hdy : m.drop k = m[k]'(by omega) :: m.drop (k + 1) := List.drop_eq_getElem_cons (by omega)
   rw [hdy]
   generalize m[k]'(by omega) = y at *
   have e : decide (x :: r = y :: m.drop (k + 1)) = if decide (x ≠ y) = true then false else decide (r = m.drop (k + 1)) := by
    by_cases h : x = y
    ·simp [h]
    ·simp [h]
   rw [e]
   have hkm : k < m.length := by omega
   repeat' (first | refine dq1 ?_ | refine dqc ?_ | refine dqm ?_ | exact z4 rfl rfl | exact ze rfl rfl (hag () trivial) | exact ze rfl rfl (hag _ trivial) | exact ze rfl rfl (hag _ (by omega)) | exact ze rfl rfl (hag _ (by assumption)) | ((first | refine tR ?_ ?_ | refine tB ?_ ?_ | refine tC ?_ ?_ | refine tN ?_ ?_ | refine tF ?_ ?_ | refine tG ?_ ?_ | refine tP ?_ ?_ | refine tQ ?_ ?_ | refine tA ?_ ?_ | refine tO ?_ ?_ | refine tU ?_ ?_ | refine tV ?_ ?_) <;> intro h) | refine dqT ?_ | refine dqF ?_ | refine z7 rfl ?_ | refine z6 rfl ?_ | refine zg ?_ | refine zh ?_)
  ·rintro _ - again
   rw [hlm, List.drop_length]
   repeat' (first | refine dq1 ?_ | refine dqc ?_ | refine dqm ?_ | exact z4 rfl rfl | ((first | refine tR ?_ ?_ | refine tB ?_ ?_ | refine tC ?_ ?_ | refine tN ?_ ?_ | refine tF ?_ ?_ | refine tG ?_ ?_ | refine tP ?_ ?_ | refine tQ ?_ ?_ | refine tA ?_ ?_ | refine tO ?_ ?_ | refine tU ?_ ?_ | refine tV ?_ ?_) <;> intro h) | refine dqT ?_ | refine dqF ?_ | refine z7 rfl ?_ | refine z6 rfl ?_ | refine zg ?_ | refine zh ?_)
end
section
open Go.Lib (itoa atoiAll)
open Go.RowKit
end
section
open Go.Lib (itoa)
open Go.RowKit
def zaf : List UInt8 := [98, 108, 111, 99, 107]
def z1q : List UInt8 := [10, 116, 120, 32]
def zwg : Block := ⟨0, 0, 0, 0, []⟩
abbrev zdt := Int × Int × Int × Int
def set4 (o : zdt) (k : Nat) (n : Int) : zdt := match k with
 | 0 => (n, o.2)
 | 1 => (o.1, n, o.2.2)
 | 2 => (o.1, o.2.1, n, o.2.2.2)
 | _ => (o.1, o.2.1, o.2.2.1, n)
def zwh (o : zdt) (k : Nat) : List (List UInt8) → zdt × Bool
 | [] => (o, true)
 | x :: r => if (zfh x).2 = true then zwh (set4 o k (zfh x).1) (k + 1) r else (o, false)
def z9w (s : List UInt8) : zdt × Bool :=
 if ((z1g 32 s).length : Int) ≠ 5 then ((0, 0, 0, 0), false) else
 if (z1g 32 s).headD [] ≠ zaf then ((0, 0, 0, 0), false) else zwh (0, 0, 0, 0) 0 ((z1g 32 s).drop 1)
def zb4 (s : List UInt8) : Int := Go.Lib.index (s.drop 1) z1q
def zha (s : List UInt8) : List UInt8 := if 0 ≤ zb4 s then s.take (zb4 s + 2).toNat else s
def zdu : Nat → List UInt8 → List (List UInt8)
 | 0, _ => []
 | f + 1, s => if s = [] then [] else zha s :: zdu f (s.drop (zha s).length)
def endB (h : zdt) (l : List Tx) : Block × Int := if zq ⟨h.1, h.2.1, h.2.2.1, h.2.2.2, l⟩ ≠ 0 then (zwg, zq ⟨h.1, h.2.1, h.2.2.1, h.2.2.2, l⟩) else (⟨h.1, h.2.1, h.2.2.1, h.2.2.2, l⟩, 0)
def zdv (h : zdt) (l : List Tx) : List (List UInt8) → Block × Int
 | [] => endB h l
 | p :: r => if (zdk p).2 ≠ 0 then (zwg, (zdk p).2) else zdv h (l ++ [(zdk p).1]) r
def zuh (s : List UInt8) : Block × Int :=
 if 4000 < (s.length : Int) then (zwg, 2) else
 if (z9w (Go.Lib.cut s [10]).1).2 = true then zdv (z9w (Go.Lib.cut s [10]).1).1 [] (zdu (Go.Lib.cut s [10]).2.1.length (Go.Lib.cut s [10]).2.1) else (zwg, 1)
theorem zrm (p : List UInt8) : ∀ s : List UInt8, -1 ≤ Go.Lib.index s p ∧ (p ≠ [] → Go.Lib.index s p < (s.length : Int) ∨ Go.Lib.index s p = -1)
 | [] => by
  unfold Go.Lib.index
  split
  ·rename_i h
   refine ⟨by omega, fun hp => ?_⟩
   cases p with
   | nil => exact absurd rfl hp
   | cons a p => cases h
  ·exact ⟨by omega, fun _ => .inr rfl⟩
 | b :: s => by
  obtain ⟨h1, h2⟩ := zrm p s
  unfold Go.Lib.index
  split
  ·exact ⟨by omega, fun _ => .inl (by simp only [List.length_cons]; omega)⟩
  ·split
   ·exact ⟨by omega, fun _ => .inr rfl⟩
   ·refine ⟨by omega, fun hp => ?_⟩
    rename_i hne
    have hne' : Go.Lib.index s p ≠ -1 := by simpa using hne
    rcases h2 hp with h | h
    ·exact .inl (by simp only [List.length_cons]; omega)
    ·exact absurd h hne'
theorem z01v {b : UInt8} (hb : b ≠ 10) (s : List UInt8) : Go.Lib.index (b :: s) z1q = if Go.Lib.index s z1q = -1 then -1 else Go.Lib.index s z1q + 1 := by
 rw [Go.Lib.index]
 have hp : List.isPrefixOf z1q (b :: s) = false := by
  simp only [z1q, List.isPrefixOf, Bool.and_eq_false_imp, beq_iff_eq]
  intro h; exact absurd h.symm hb
 rw [hp]
 simp
theorem z9g : ∀ (x s : List UInt8), (∀ b ∈ x, b ≠ 10) → Go.Lib.index (x ++ s) z1q = if Go.Lib.index s z1q = -1 then -1 else (x.length : Int) + Go.Lib.index s z1q
 | [], s, _ => by
  simp only [List.nil_append, List.length_nil]
  split
  ·assumption
  ·simp
 | b :: x, s, h => by
  have ih := z9g x s fun y hy => h y (List.mem_cons_of_mem _ hy)
  have h1 := (zrm z1q s).1
  rw [List.cons_append, z01v (h b (by simp)), ih]
  simp only [List.length_cons]
  by_cases hi : Go.Lib.index s z1q = -1
  ·rw [if_pos hi, if_pos hi]; rfl
  ·rw [if_neg hi, if_neg hi, if_neg (by omega)]; omega
theorem zzm {s : List UInt8} (h : List.isPrefixOf tTx s = false) : Go.Lib.index (10 :: s) z1q = if Go.Lib.index s z1q = -1 then -1 else Go.Lib.index s z1q + 1 := by
 rw [Go.Lib.index]
 have hp : List.isPrefixOf z1q (10 :: s) = false := by
  have : List.isPrefixOf z1q (10 :: s) = List.isPrefixOf tTx s := by simp [z1q, tTx, List.isPrefixOf]
  rw [this, h]
 rw [hp]
 simp
theorem z044 (s : List UInt8) : Go.Lib.index (10 :: (tTx ++ s)) z1q = 0 := by
 rw [Go.Lib.index]
 have hp : List.isPrefixOf z1q (10 :: (tTx ++ s)) = true := by
  rw [List.isPrefixOf_iff_prefix]
  exact List.prefix_append z1q s
 rw [hp]
 rfl
structure PlainL (l : List UInt8) : Prop where
 ne : ∀ b ∈ l, b ≠ 10
 no : ∀ s, List.isPrefixOf tTx (l ++ s) = false
theorem zrn : ∀ (ls : List (List UInt8)) (x : List UInt8), (∀ l ∈ ls, PlainL l) → (∀ b ∈ x, b ≠ 10) → Go.Lib.index (x ++ 10 :: ls.flatMap (· ++ [10])) z1q = -1
 | [], x, _, hx => by
  rw [z9g _ _ hx]
  have : Go.Lib.index (10 :: ([] : List (List UInt8)).flatMap (· ++ [10])) z1q = -1 := by decide
  rw [this, if_pos rfl]
 | l :: ls, x, hl, hx => by
  have h1 := hl l (by simp)
  have ih := zrn ls l (fun y hy => hl y (List.mem_cons_of_mem _ hy)) h1.ne
  rw [z9g _ _ hx]
  have e : (l :: ls).flatMap (· ++ [10]) = l ++ 10 :: ls.flatMap (· ++ [10]) := by simp
  rw [e, zzm (h1.no _), ih, if_pos rfl, if_pos rfl]
theorem zro (m : List UInt8) : ∀ (ls : List (List UInt8)) (x : List UInt8), (∀ l ∈ ls, PlainL l) → (∀ b ∈ x, b ≠ 10) → Go.Lib.index (x ++ 10 :: (ls.flatMap (· ++ [10]) ++ (tTx ++ m))) z1q = (x.length : Int) + (ls.flatMap (· ++ [10])).length
 | [], x, _, hx => by
  rw [z9g _ _ hx]
  simp only [List.flatMap_nil, List.nil_append]
  rw [z044]
  simp
 | l :: ls, x, hl, hx => by
  have h1 := hl l (by simp)
  have ih := zro m ls l (fun y hy => hl y (List.mem_cons_of_mem _ hy)) h1.ne
  rw [z9g _ _ hx]
  have e : (l :: ls).flatMap (· ++ [10]) ++ (tTx ++ m) = l ++ 10 :: (ls.flatMap (· ++ [10]) ++ (tTx ++ m)) := by simp
  rw [e, zzm (by have := h1.no (10 :: (ls.flatMap (· ++ [10]) ++ (tTx ++ m))); exact this), ih, if_neg (by omega), if_neg (by omega)]
  simp only [List.flatMap_cons, List.length_append, List.length_cons, List.length_nil]
  omega
theorem zzn (x : In) : PlainL (inL x) := ⟨zqb x, fun s => by simp [inL, z04, tIn, tTx, List.isPrefixOf]⟩
theorem zwi (x : Out) : PlainL (z5m x) := ⟨zke x, fun s => by simp [z5m, z04, z9b, tTx, List.isPrefixOf]⟩
theorem zey {t : Tx} (h : zi t = 0) : ∃ ls : List (List UInt8), (∀ l ∈ ls, PlainL l) ∧ z0b t = 116 :: ([120, 32] ++ itoa t.height) ++ 10 :: ls.flatMap (· ++ [10]) := by
 have ok := z2e h
 refine ⟨t.ins.map inL ++ t.outs.map z5m, fun l hl => ?_, ?_⟩
 ·rcases List.mem_append.1 hl with hl | hl
  ·obtain ⟨x, -, rfl⟩ := List.mem_map.1 hl; exact zzn x
  ·obtain ⟨x, -, rfl⟩ := List.mem_map.1 hl; exact zwi x
 ·have e1 : t.ins.flatMap z32 = (t.ins.map inL).flatMap (· ++ [10]) := by
   rw [List.flatMap_map]
   simp only [List.flatMap_def]
   congr 1
   exact List.map_congr_left fun x hx => zkd (zbx (z9a ok.insOk x hx)).2.2.2.2
  have e2 : t.outs.flatMap z2i = (t.outs.map z5m).flatMap (· ++ [10]) := by
   rw [List.flatMap_map]
   simp only [List.flatMap_def]
   congr 1
   exact List.map_congr_left fun x hx => zh2 (ok.good x hx).2.2
  unfold z0b z2v
  rw [e1, e2, List.flatMap_append]
  simp
theorem z01w {t : Tx} (h : zi t = 0) {r : List Tx} (hr : ∀ u ∈ r, zi u = 0) : zha (z0b t ++ r.flatMap z0b) = z0b t := by
 obtain ⟨ls, hls, e⟩ := zey h
 have hx : ∀ b ∈ ([120, 32] ++ itoa t.height : List UInt8), b ≠ 10 := by
  intro b hb
  simp only [List.cons_append, List.nil_append, List.mem_cons] at hb
  rcases hb with rfl | rfl | hb
  ·decide
  ·decide
  ·exact (z2f _ b hb).2.2
 cases r with
 | nil =>
  have hk : zb4 (z0b t ++ ([] : List Tx).flatMap z0b) = -1 := by
   unfold zb4
   rw [e]
   simp only [List.flatMap_nil, List.append_nil, List.cons_append, List.drop_succ_cons, List.drop_zero]
   exact zrn ls _ hls hx
  unfold zha
  rw [hk, if_neg (by omega)]
  simp
 | cons u r =>
  obtain ⟨ls2, -, e2⟩ := zey (hr u (by simp))
  have e3 : (u :: r).flatMap z0b = tTx ++ (itoa u.height ++ 10 :: ls2.flatMap (· ++ [10]) ++ r.flatMap z0b) := by
   rw [List.flatMap_cons, e2]
   simp [tTx]
  rw [e3]
  have hk : zb4 (z0b t ++ (tTx ++ (itoa u.height ++ 10 :: ls2.flatMap (· ++ [10]) ++ r.flatMap z0b))) = (([120, 32] ++ itoa t.height : List UInt8).length : Int) + (ls.flatMap (· ++ [10])).length := by
   unfold zb4
   rw [e]
   have := zro (itoa u.height ++ 10 :: ls2.flatMap (· ++ [10]) ++ r.flatMap z0b) ls _ hls hx
   rw [← this]
   simp
  unfold zha
  rw [hk, if_pos (by omega)]
  have hl : (z0b t).length = ((([120, 32] ++ itoa t.height : List UInt8).length : Int) + (ls.flatMap (· ++ [10])).length + 2).toNat := by
   rw [e]
   simp only [List.length_append, List.length_cons]
   omega
  rw [← hl, List.take_left']
  rfl
theorem zkm {t : Tx} : z0b t ≠ [] := by simp [z0b, z2v]
theorem zhb : ∀ (r : List Tx) (f : Nat), (∀ u ∈ r, zi u = 0) → (r.flatMap z0b).length ≤ f → zdu f (r.flatMap z0b) = r.map z0b
 | [], f, _, _ => by cases f <;> simp [zdu]
 | t :: r, f, h, hf => by
  have ht := h t (by simp)
  have hr := fun u hu => h u (List.mem_cons_of_mem _ hu)
  have hl : 0 < (z0b t).length := List.length_pos_iff.2 zkm
  rw [List.flatMap_cons] at hf ⊢
  rw [List.length_append] at hf
  cases f with
  | zero => omega
  | succ f =>
   unfold zdu
   rw [if_neg (fun e => zkm (List.append_eq_nil_iff.1 e).1), z01w ht hr, List.drop_left', zhb r f hr (by omega)]
   ·rfl
   ·rfl
theorem zhc (h : zdt) : ∀ (r l : List Tx), (∀ u ∈ r, zi u = 0) → zdv h l (r.map z0b) = endB h (l ++ r)
 | [], l, _ => by simp [zdv]
 | t :: r, l, hr => by
  have ht := zvy (hr t (by simp))
  rw [List.map_cons, zdv, ht]
  simp only
  rw [if_neg (fun h => h rfl), zhc h r _ fun u hu => hr u (List.mem_cons_of_mem _ hu)]
  simp
theorem z9x {n : Int} (h0 : -9223372036854775808 ≤ n) (h1 : n ≤ 9223372036854775807) : zfh (itoa n) = (n, true) := by
 have h := z03u (itoa n)
 rw [zby h0 h1] at h
 by_cases hb : (zfh (itoa n)).2 = true
 ·rw [if_pos hb] at h
  injection h with h
  exact Prod.ext h.symm hb
 ·rw [if_neg hb] at h; cases h
theorem z01x (b : Block) : z0e b = z04 32 [zaf, itoa b.parent, itoa b.height, itoa b.work, itoa b.nonce] ++ 10 :: b.txs.flatMap z0b := by
 unfold z0e z3u
 simp [z04, zaf]
theorem ztg (b : Block) : ∀ x ∈ z04 32 [zaf, itoa b.parent, itoa b.height, itoa b.work, itoa b.nonce], x ≠ 10 := by
 intro x hx
 simp only [z04, zaf, List.mem_append, List.mem_cons, List.not_mem_nil, or_false] at hx
 rcases hx with (rfl | rfl | rfl | rfl | rfl) | rfl | hx | rfl | hx | rfl | hx | rfl | hx
 all_goals first | decide | exact (z2f _ x hx).2.2
theorem zzo (b : Block) : z1g 32 (z04 32 [zaf, itoa b.parent, itoa b.height, itoa b.work, itoa b.nonce]) = [zaf, itoa b.parent, itoa b.height, itoa b.work, itoa b.nonce] := z5z 32 _ (by simp) fun y hy x hx => by
 simp only [List.mem_cons, List.not_mem_nil, or_false] at hy
 rcases hy with rfl | rfl | rfl | rfl | rfl
 ·simp only [zaf, List.mem_cons, List.not_mem_nil, or_false] at hx
  rcases hx with rfl | rfl | rfl | rfl | rfl <;> decide
 all_goals exact (z2f _ x hx).1
theorem zez {b : Block} (h : zq b = 0) (hl : (z0e b).length ≤ 4000) : zuh (z0e b) = (b, 0) := by
 have ok := z45 h
 have hr := ok.range
 unfold z3r at hr
 have hc : Go.Lib.cut (z0e b) [10] = (z04 32 [zaf, itoa b.parent, itoa b.height, itoa b.work, itoa b.nonce], b.txs.flatMap z0b, true) := by
  rw [z01x]; exact zfg (ztg b)
 have hn : z9w (z04 32 [zaf, itoa b.parent, itoa b.height, itoa b.work, itoa b.nonce]) = ((b.parent, b.height, b.work, b.nonce), true) := by
  unfold z9w
  rw [zzo]
  rw [if_neg (by simp), if_neg (by simp)]
  simp only [List.drop_succ_cons, List.drop_zero, zwh]
  rw [z9x (by omega) (by omega), z9x (by omega) (by omega), z9x (by omega) (by omega), z9x (by omega) (by omega)]
  rfl
 unfold zuh
 rw [if_neg (by omega), hc]
 simp only
 rw [hn, if_pos rfl, zhb _ _ ok.each (Nat.le_refl _), zhc _ _ _ ok.each]
 unfold endB
 simp only [List.nil_append]
 rw [if_neg (fun k => k h)]
theorem zth {b c : Block} (h : zq b = 0) (k : zq c = 0) (hl : (z0e b).length ≤ 4000) (e : z0e b = z0e c) : b = c := by
 have h1 := zez h hl
 rw [e, zez k (e ▸ hl)] at h1
 exact (Prod.mk.inj h1).1.symm
end
section
open Go.RowKit
set_option maxRecDepth 100000
theorem zkn : ∀ (l t : List z2n) (o : List Int), z3i t → (z0w l t o).2.2 = 0 → z3i (z0w l t o).1 ∧ t <+: (z0w l t o).1 ∧ (∀ s ∈ l, 0 ≤ idx (z0w l t o).1 s ∧ s.length ≤ 4000) ∧ (z0w l t o).2.1 = o ++ l.map fun s => idx (z0w l t o).1 s + 1
 | [], t, o, ht, _ => ⟨ht, List.prefix_refl _, (fun s hs => by cases hs), by simp [z0w]⟩
 | s :: l, t, o, ht, he => by
  rw [z0w] at he ⊢
  by_cases h : 4000 < s.length
  ·rw [if_pos h] at he; cases he
  rw [if_neg h] at he ⊢
  by_cases h2 : z1o t s ≠ 0
  ·rw [if_pos h2] at he; exact absurd he h2
  rw [if_neg h2] at he ⊢
  have h3 : z1o t s = 0 := by simpa using h2
  obtain ⟨a, b, c, d⟩ := zuf ht (by omega) h3
  obtain ⟨e, f, g, i⟩ := zkn l _ _ a he
  generalize z0w l (z2d t s) (o ++ [z28 t s]) = q at *
  refine ⟨e, b.trans f, fun u hu => ?_, ?_⟩
  ·rcases List.mem_cons.1 hu with rfl | hu
   ·exact ⟨zc9 f c, by omega⟩
   ·exact g u hu
  ·rw [i, d, List.map_cons, z52 f c]
   simp
theorem zko : ∀ (l t : List z2n) (o : List Int), (∀ s ∈ l, 0 ≤ idx t s ∧ s.length ≤ 4000) → z0w l t o = (t, o ++ l.map (fun s => idx t s + 1), 0)
 | [], t, o, _ => by simp [z0w]
 | s :: l, t, o, h => by
  obtain ⟨h1, h2⟩ := h s (List.mem_cons_self ..)
  obtain ⟨a, b, c⟩ := zw6 h1
  rw [z0w, if_neg (by omega), if_neg (by omega), b, c, zko l t _ fun u hu => h u (List.mem_cons_of_mem _ hu)]
  simp
theorem zcd {k : Book} {b : Block} {x : List z2n} {n : Int} {ns : List Int} (h : zu k b = (x, n, ns, 0)) :
  zq b = 0 ∧ z3i k.texts ∧ z3i x ∧ k.texts <+: x ∧ 0 ≤ idx x (z0e b) ∧ (z0e b).length ≤ 4000 ∧ n = idx x (z0e b) + 1 ∧ (∀ s ∈ z1v b, 0 ≤ idx x s ∧ s.length ≤ 4000) ∧ ns = (z1v b).map fun s => idx x s + 1 := by
 unfold zu at h
 by_cases hp : (z05 b).2 = 0
 rotate_left
 ·rw [if_pos hp] at h
  exact absurd (congrArg (fun x => x.2.2.2) h) hp
 have hb := z7u hp
 rw [if_neg (fun k => k hp), zer hb] at h
 unfold z6z at h
 simp only at h
 by_cases ha : (z00 k (z1v b ++ [z0e b])).2.2 = 0
 rotate_left
 ·rw [if_pos ha] at h
  exact absurd (congrArg (fun x => x.2.2.2) h) ha
 rw [if_neg (fun k => k ha)] at h
 unfold z00 at h ha
 by_cases hc : z0n k = 0
 rotate_left
 ·rw [if_pos hc] at ha
  exact absurd ha hc
 rw [if_neg (fun k => k hc)] at h ha
 have hk := (z7t k.texts).1 hc
 obtain ⟨e, f, g, i⟩ := zkn _ _ _ hk ha
 generalize z0w (z1v b ++ [z0e b]) k.texts [] = q at *
 obtain ⟨q1, q2, q3⟩ := q
 simp only [Prod.mk.injEq, and_true, List.nil_append, List.map_append, List.map_cons, List.map_nil] at *
 obtain ⟨rfl, h2, h3⟩ := h
 have hl := g (z0e b) (by simp)
 refine ⟨hb, hk, e, f, hl.1, hl.2, ?_, fun s hs => g s (List.mem_append_left _ hs), ?_⟩
 ·rw [← h2, i, List.getD_eq_getElem?_getD, List.getElem?_append_right (by simp)]
  simp
 ·rw [← h3, i, List.take_append_of_le_length (by simp)]
  rw [List.take_of_length_le (by simp)]
theorem zlx {b : Block} {y : List z2n} (hb : zq b = 0) (hy : z3i y) (h1 : 0 ≤ idx y (z0e b)) (h2 : (z0e b).length ≤ 4000) (h3 : ∀ s ∈ z1v b, 0 ≤ idx y s ∧ s.length ≤ 4000) :
  zu ⟨y⟩ b = (y, idx y (z0e b) + 1, (z1v b).map (fun s => idx y s + 1), 0) := by
 have e : z00 ⟨y⟩ (z1v b ++ [z0e b]) = (y, (z1v b ++ [z0e b]).map (fun s => idx y s + 1), 0) := by
  unfold z00
  rw [if_neg (fun k => k ((z7t y).2 hy)), zko _ _ _ fun s hs => ?_, List.nil_append]
  rcases List.mem_append.1 hs with h | h
  ·exact h3 s h
  ·rw [List.mem_singleton.1 h]; exact ⟨h1, h2⟩
 unfold zu
 rw [zer hb, if_neg (fun k => k rfl)]
 unfold z6z
 rw [e, if_neg (fun k => k rfl)]
 simp only [Prod.mk.injEq, and_true, true_and]
 refine ⟨?_, ?_⟩
 ·rw [List.map_append, List.getD_eq_getElem?_getD, List.getElem?_append_right (by simp)]
  simp
 ·rw [List.map_append, List.take_append_of_le_length (by simp), List.take_of_length_le (by simp)]
theorem z01y {t : List z2n} {a b : z2n} (ha : 0 ≤ idx t a) (hb : 0 ≤ idx t b) (h : idx t a = idx t b) : a = b := by
 obtain ⟨i, hi, his⟩ := zh4 ha
 obtain ⟨j, hj, hjs⟩ := zh4 hb
 obtain rfl : i = j := by omega
 rw [his] at hjs
 exact Option.some.inj hjs
def z2j (x : List z2n) (l : List z2n) : List z2n := if (z00 ⟨x⟩ l).2.2 = 0 then (z00 ⟨x⟩ l).1 else x
theorem z01z {x : List z2n} (h : z3i x) (l : List z2n) : z3i (z2j x l) ∧ x <+: z2j x l := by
 unfold z2j
 by_cases he : (z00 ⟨x⟩ l).2.2 = 0
 ·rw [if_pos he]
  unfold z00 at he ⊢
  rw [if_neg (fun k => k ((z7t x).2 h))] at he ⊢
  exact z01e l x [] h he
 ·rw [if_neg he]
  exact ⟨h, List.prefix_refl _⟩
theorem zti {k : Book} {b : Block} {x : List z2n} {n : Int} {ns : List Int} (h : zu k b = (x, n, ns, 0)) (l : List z2n) :
  zu ⟨z2j x l⟩ b = (z2j x l, n, ns, 0) ∧ ns.length = b.txs.length ∧ ∀ c, (zu ⟨z2j x l⟩ c).2.2.2 = 0 → decide ((zu ⟨z2j x l⟩ c).2.1 = n) = decide (b = c) := by
 obtain ⟨h1, h2, h3, h4, h5, h6, h7, h8, h9⟩ := zcd h
 obtain ⟨y1, y2⟩ := z01z h3 l
 generalize z2j x l = y at *
 have hi := z52 y2 h5
 have hm : (z1v b).map (fun s => idx y s + 1) = (z1v b).map fun s => idx x s + 1 := List.map_congr_left fun s hs => by rw [z52 y2 (h8 s hs).1]
 refine ⟨?_, ?_, fun c hc => ?_⟩
 ·rw [zlx h1 y1 (by omega) h6 fun s hs => ⟨zc9 y2 (h8 s hs).1, (h8 s hs).2⟩, hi, hm, h7, h9]
 ·rw [h9]; simp [z1v]
 ·have hcc : zu ⟨y⟩ c = ((zu ⟨y⟩ c).1, (zu ⟨y⟩ c).2.1, (zu ⟨y⟩ c).2.2.1, 0) := by rw [← hc]
  obtain ⟨c1, c2, c3, c4, c5, c6, c7, -, -⟩ := zcd hcc
  rw [c7, h7]
  have hj := z52 c4 (show 0 ≤ idx y (z0e b) by omega)
  simp only at hj
  refine decide_eq_decide.2 ⟨fun e => ?_, fun e => ?_⟩
  ·exact zth h1 c1 h6 (z01y (by omega) c5 (by omega))
  ·subst e; omega
end
section
open Go.RowKit
open Go.Lib (itoa)
set_option maxRecDepth 100000
set_option maxHeartbeats 8000000
attribute [local irreducible] z0h spD zu z00
attribute [local irreducible] den denX z0s z1h
noncomputable def zj5 : z9 := spD (fun x : Book × Block × List (List UInt8) × Block => x.2.2.1.length ≤ 8796093022207) fun _ => true
def z9y : T :=
 .lets [.bin .eql (.v 37) (.v 13)] [] (.lets [.call 49 [.v 1, .v 2, .v 3, .v 4, .v 5, .v 7, .v 8, .v 9, .v 10, .v 11] 0] [] (.lets [.beq false (.v 41) (.v 42)] [] (.ret [.v 43])))
def zhd : T :=
 .lets [.call 45 [.v 12, .v 7, .v 8, .v 9, .v 10, .v 11] 0, .call 45 [.v 12, .v 7, .v 8, .v 9, .v 10, .v 11] 1, .call 45 [.v 12, .v 7, .v 8, .v 9, .v 10, .v 11] 2, .call 45 [.v 12,
 .v 7, .v 8, .v 9, .v 10, .v 11] 3] [] (.lets [.bin .neq (.v 39) (.c (.i .i64 0))] [] (.ite (.v 40) (.ret [.c (.b true)]) z9y))
def zhe : T :=
 .ite (.v 32) (.ret [.c (.b false)]) (.lets [.len (.v 14)] [] (.lets [.len (.v 5)] [] (.lets [.bin .neq (.v 33) (.v 34)] [] (.ite (.v 35) (.ret [.c (.b false)]) zhd))))
def zhf : T :=
 .lets [.call 34 [.v 25, .v 14] 0] [] (.lets [.not (.v 29)] [] (.ite (.v 30) (.ret [.c (.b false)]) (.lets [.call 50 [.v 23, .v 12] 0] [] (.lets [.not (.v 31)] [] zhe))))
def zhg : T :=
 .lets [.bin .neq (.v 26) (.c (.i .i64 0))] [] (.ite (.v 27) (.ret [.c (.b false)]) (.lets [.bin .neq (.v 24) (.v 13)] [] (.ite (.v 28) (.ret [.c (.b false)]) zhf)))
def zhh : T :=
 .lets [.call 45 [.v 12, .v 1, .v 2, .v 3, .v 4, .v 5] 0, .call 45 [.v 12, .v 1, .v 2, .v 3, .v 4, .v 5] 1, .call 45 [.v 12, .v 1, .v 2, .v 3, .v 4, .v 5] 2, .call 45 [.v 12, .v 1,
 .v 2, .v 3, .v 4, .v 5] 3] [] zhg
def zhi : T :=
 .lets [.call 45 [.v 19, .v 7, .v 8, .v 9, .v 10, .v 11] 0, .call 45 [.v 19, .v 7, .v 8, .v 9, .v 10, .v 11] 1, .call 45 [.v 19, .v 7, .v 8, .v 9, .v 10, .v 11] 2, .call 45 [.v 19,
 .v 7, .v 8, .v 9, .v 10, .v 11] 3] [] (.lets [.bin .neq (.v 39) (.c (.i .i64 0))] [] (.ite (.v 40) (.ret [.c (.b true)]) z9y))
def zhj : T :=
 .ite (.v 32) (.ret [.c (.b false)]) (.lets [.len (.v 14)] [] (.lets [.len (.v 5)] [] (.lets [.bin .neq (.v 33) (.v 34)] [] (.ite (.v 35) (.ret [.c (.b false)]) zhi))))
def zhk : T :=
 .lets [.call 34 [.v 25, .v 14] 0] [] (.lets [.not (.v 29)] [] (.ite (.v 30) (.ret [.c (.b false)]) (.lets [.call 50 [.v 23, .v 19] 0] [] (.lets [.not (.v 31)] [] zhj))))
def zhl : T :=
 .lets [.bin .neq (.v 26) (.c (.i .i64 0))] [] (.ite (.v 27) (.ret [.c (.b false)]) (.lets [.bin .neq (.v 24) (.v 13)] [] (.ite (.v 28) (.ret [.c (.b false)]) zhk)))
def zfp : T :=
 .lets [.call 45 [.v 19, .v 1, .v 2, .v 3, .v 4, .v 5] 0, .call 45 [.v 19, .v 1, .v 2, .v 3, .v 4, .v 5] 1, .call 45 [.v 19, .v 1, .v 2, .v 3, .v 4, .v 5] 2, .call 45 [.v 19, .v 1,
 .v 2, .v 3, .v 4, .v 5] 3] [] zhl
def zfq : T :=
 .lets [.call 43 [.v 12, .v 6] 0, .call 43 [.v 12, .v 6] 1, .call 43 [.v 12, .v 6] 2] [] (.lets [.bin .neq (.v 21) (.c (.i .i64 0))] [] (.ite (.v 22) zhh
 zfp))
def zfr : T :=
 .ite (.v 17) (.lets [.call 51 [] 0] [] (.ret [.v 18])) (.lets [.bin .neq (.v 15) (.c (.i .i64 0))] [] (.ite (.v 18) (.lets [.call 51 [] 0] [] (.ret [.v 19])) zfq))
def z7x : T :=
 .lets [.call 45 [.v 0, .v 1, .v 2, .v 3, .v 4, .v 5] 0, .call 45 [.v 0, .v 1, .v 2, .v 3, .v 4, .v 5] 1, .call 45 [.v 0, .v 1, .v 2, .v 3, .v 4, .v 5] 2, .call 45 [.v 0, .v 1, .v 2,
 .v 3, .v 4, .v 5] 3] [] (.lets [.call 51 [] 0] [] (.lets [.not (.v 16)] [] zfr))
attribute [local irreducible] z1e z6n z33 z3p z7i z9f
theorem zly : Meets Tryd.prog zj5 3 ⟨[.agg 1, .agg 5, .one, .agg 5], [(false, [.scal])], true⟩ := by
 refine zy (sp := (z0v [(34, z3p), (43, z33), (45, z1e), (49, z6n), (50, z7i), (51, z9f)])) (sigs := z11) (cut := []) (hints := []) (fn := Tryd.f3) (t := z7x) (by kernel_rfl) (by kernel_rfl) (by kernel_rfl) ?_ ?_
 ·exact (z0m (L := [(34, z3p), (43, z33), (45, z1e), (49, z6n), (50, z7i), (51, z9f)]) ⟨zl rfl zqd, zl rfl zki, zl rfl zc2, zl rfl zzb, zl rfl z01t, zl rfl z043, trivial⟩)
 ·rintro ds rs - h
  obtain ⟨⟨k, b, l, c⟩, hl, rfl, rfl⟩ := z02 h
  clear h
  simp only at hl
  refine ⟨⟨1, ?_⟩, z0c rfl⟩
  show den _ _ z7x [.l 1 (k.texts.map z1m), I b.parent, I b.height, I b.work, I b.nonce, .l 3 (b.txs.map eTx), .l 1 (l.map z1m), I c.parent, I c.height, I c.work, I c.nonce, .l 3 (c.txs.map eTx)] [] = ret true
  have a1 := z3j k b
  have a2 := ztf
  have a3 := zlv b c
  unfold z7x
  generalize hq : zu k b = q at *
  obtain ⟨x, n, ns, e⟩ := q
  simp only at *
  by_cases he : e = 0
  ·subst he
   obtain ⟨n1, n2, n3⟩ := zti hq l
   have a4 := zca ⟨x⟩ l hl
   have n3 := n3 c
   have a5 := z3j ⟨z2j x l⟩ b
   have a6 := z3j ⟨z2j x l⟩ c
   have a7 := zdo ns ns
   have a8 := zrl (z2j x l) (z2j x l)
   rw [decide_eq_true rfl] at a7 a8
   rw [n1] at a5
   have hbl : (ns.length : Int) = b.txs.length := by rw [n2]
   unfold z2j at *
   generalize z00 ⟨x⟩ l = z at *
   obtain ⟨y, ys, f⟩ := z
   simp only at *
   by_cases hf : f = 0
   ·rw [if_pos hf] at *
    generalize zu ⟨y⟩ c = w at *
    obtain ⟨cx, cn, cns, ce⟩ := w
    simp only at *
    by_cases hce : ce = 0
    ·have n3 := n3 hce
     generalize decide (b = c) = d at *
     repeat' (first | refine dq1 ?_ | refine dqc ?_ | refine dqm ?_ | refine dqK rfl (a1) ?_ | refine dqK rfl (a2) ?_ | refine dqK rfl (a4) ?_ | refine dqK rfl (a5) ?_ | refine dqK rfl (a6) ?_ | refine dqK rfl (a7) ?_ | refine dqK rfl (a8) ?_ | refine dqK rfl (a3) ?_ | exact z4 rfl rfl | ((first | refine tR ?_ ?_ | refine tB ?_ ?_ | refine tC ?_ ?_ | refine tN ?_ ?_ | refine tF ?_ ?_ | refine tG ?_ ?_ | refine tP ?_ ?_ | refine tQ ?_ ?_ | refine tA ?_ ?_ | refine tO ?_ ?_ | refine tU ?_ ?_ | refine tV ?_ ?_) <;> intro h) | refine dqT ?_ | refine dqF ?_ | refine z7 rfl ?_ | refine z6 rfl ?_ | refine zg ?_ | refine zh ?_)
     all_goals (subst n3; simp; exact z4 rfl rfl)
    ·clear n3
     repeat' (first | refine dq1 ?_ | refine dqc ?_ | refine dqm ?_ | refine dqK rfl (a1) ?_ | refine dqK rfl (a2) ?_ | refine dqK rfl (a4) ?_ | refine dqK rfl (a5) ?_ | refine dqK rfl (a6) ?_ | refine dqK rfl (a7) ?_ | refine dqK rfl (a8) ?_ | refine dqK rfl (a3) ?_ | exact z4 rfl rfl | ((first | refine tR ?_ ?_ | refine tB ?_ ?_ | refine tC ?_ ?_ | refine tN ?_ ?_ | refine tF ?_ ?_ | refine tG ?_ ?_ | refine tP ?_ ?_ | refine tQ ?_ ?_ | refine tA ?_ ?_ | refine tO ?_ ?_ | refine tU ?_ ?_ | refine tV ?_ ?_) <;> intro h) | refine dqT ?_ | refine dqF ?_ | refine z7 rfl ?_ | refine z6 rfl ?_ | refine zg ?_ | refine zh ?_)
   ·rw [if_neg hf] at *
    generalize zu ⟨x⟩ c = w at *
    obtain ⟨cx, cn, cns, ce⟩ := w
    simp only at *
    by_cases hce : ce = 0
    ·have n3 := n3 hce
     generalize decide (b = c) = d at *
     repeat' (first | refine dq1 ?_ | refine dqc ?_ | refine dqm ?_ | refine dqK rfl (a1) ?_ | refine dqK rfl (a2) ?_ | refine dqK rfl (a4) ?_ | refine dqK rfl (a5) ?_ | refine dqK rfl (a6) ?_ | refine dqK rfl (a7) ?_ | refine dqK rfl (a8) ?_ | refine dqK rfl (a3) ?_ | exact z4 rfl rfl | ((first | refine tR ?_ ?_ | refine tB ?_ ?_ | refine tC ?_ ?_ | refine tN ?_ ?_ | refine tF ?_ ?_ | refine tG ?_ ?_ | refine tP ?_ ?_ | refine tQ ?_ ?_ | refine tA ?_ ?_ | refine tO ?_ ?_ | refine tU ?_ ?_ | refine tV ?_ ?_) <;> intro h) | refine dqT ?_ | refine dqF ?_ | refine z7 rfl ?_ | refine z6 rfl ?_ | refine zg ?_ | refine zh ?_)
     all_goals (subst n3; simp; exact z4 rfl rfl)
    ·clear n3
     repeat' (first | refine dq1 ?_ | refine dqc ?_ | refine dqm ?_ | refine dqK rfl (a1) ?_ | refine dqK rfl (a2) ?_ | refine dqK rfl (a4) ?_ | refine dqK rfl (a5) ?_ | refine dqK rfl (a6) ?_ | refine dqK rfl (a7) ?_ | refine dqK rfl (a8) ?_ | refine dqK rfl (a3) ?_ | exact z4 rfl rfl | ((first | refine tR ?_ ?_ | refine tB ?_ ?_ | refine tC ?_ ?_ | refine tN ?_ ?_ | refine tF ?_ ?_ | refine tG ?_ ?_ | refine tP ?_ ?_ | refine tQ ?_ ?_ | refine tA ?_ ?_ | refine tO ?_ ?_ | refine tU ?_ ?_ | refine tV ?_ ?_) <;> intro h) | refine dqT ?_ | refine dqF ?_ | refine z7 rfl ?_ | refine z6 rfl ?_ | refine zg ?_ | refine zh ?_)
  ·repeat' (first | refine dq1 ?_ | refine dqc ?_ | refine dqm ?_ | refine dqK rfl (a1) ?_ | refine dqK rfl (a2) ?_ | exact z4 rfl rfl | ((first | refine tR ?_ ?_ | refine tB ?_ ?_ | refine tC ?_ ?_ | refine tN ?_ ?_ | refine tF ?_ ?_ | refine tG ?_ ?_ | refine tP ?_ ?_ | refine tQ ?_ ?_ | refine tA ?_ ?_ | refine tO ?_ ?_ | refine tU ?_ ?_ | refine tV ?_ ?_) <;> intro h) | refine dqT ?_ | refine dqF ?_ | refine z7 rfl ?_ | refine z6 rfl ?_ | refine zg ?_ | refine zh ?_)
theorem blockNamed_walk (k : Book) (c_k : List Value) (b : Block) (c_b : List Value) (l : List (List UInt8)) (A_l : Option Addr) (n_l c_l : Nat) (c : Block) (c_c : List Value) (w : World) (h_k : shBook.rep w (Lt w.heap.size) k c_k) (h_b : shBlock.rep w (Lt w.heap.size) b c_b) (h_l : Rds shStr w (Lt w.heap.size) l A_l n_l c_l) (h_c : shBlock.rep w (Lt w.heap.size) c c_c) (z_l : n_l * 16 ≤ 140737488351232) (hG : Glob w) :
  Calls Tryd.prog 3 #[.agg c_k.toArray, .agg c_b.toArray, .slice A_l n_l c_l, .agg c_c.toArray] w fun e w' => e = .returned (.bool true) ∧ Below w.heap.size w w' :=
 zrx (F := Lt w.heap.size) (us := [.agg c_k.toArray, .agg c_b.toArray, .slice A_l n_l c_l, .agg c_c.toArray]) rfl (z3a (fn := Tryd.f3) (by kernel_rfl) (by kernel_rfl) (by kernel_rfl)) zly ⟨fun _ h => h, hG⟩ (z01 (f := fun _ => true) (k, b, l, c) (by have q:=h_l.1;simp only;omega))
  (zbf (d1 := z83 k) (she_book.to h_k) rfl (zbf (d1 := z4i b) (she_block.to h_b) rfl (zgb (zam ze6 h_l) (zbf (d1 := z4i c) (she_block.to h_c) rfl zga))))
end
end Go.Proofs.YtnklncinjahckaaDoor
