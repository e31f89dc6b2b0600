/- Own texts, put together by wip/bundle.py: VRow, VDel, VIns, VU8, VU4, VU9, VPU, VPB, VC2, VC4, VB5, VC3, VC5, VR2, VW11. -/
import Derived.Laws.IdiomCopy
import Derived.Lib.AppendZerosOnto
import Derived.Deep.RegionLaw
import Derived.Lib.Hide
import Derived.Laws.Externs
import Derived.Laws.NewBlocks
import Derived.Test.YtnklncinjahckaaGreatDoorBBOwnB
import Derived.Test.YtnklncinjahckaaGreatDoorBBOwnC
import Derived.Test.YtnklncinjahckaaGreatDoorBBOwnR
import Derived.Test.YtnklncinjahckaaGreatDoorBBOwnS
import Derived.Test.YtnklncinjahckaaGreatDoorBBOwnV3
import Derived.Test.YtnklncinjahckaaGreatDoorBBOwnZ2
set_option linter.unusedVariables false
set_option linter.unusedSimpArgs false
namespace Go.Proofs.YtnklncinjahckaaGreatDoor
section
open Go.RowKit
section
variable {P : Program} {W : World}
theorem zcv {g o t : Nat} {vs cs : List Value} (hg : W.heap[g]? = some (.cells vs.toArray t (0, 0))) (hn : o + cs.length ≤ vs.length) (h1 : ∀ v ∈ cs, v.oneCell' = true) : (storeCells ⟨g, o, none⟩ cs 0).run P W = .ok () (W.setCells g o cs) := by
 have h := zf5 (fr := (0, 0)) hg (o := o) (n := cs.length) hn
 have := run_storeCells_cells (P := P) g o cs 0 W (fun j hj => by rw [Nat.add_zero]; exact (h j hj).1) (fun j hj => by rw [Nat.add_zero]; exact (h j hj).2) h1
 simpa using this
theorem z054 {t e ty sz : Nat} {z : Value} (ht : P.underlying t = some (.slice e)) (hv : ∀ w, (zeroValue e).run P w = .ok z w) (hz : z.cells.size = sz) (h1 : ∀ v ∈ z.cells.toList, v.oneCell' = true) {g o n c tt : Nat} {vs : List Value} (hg : W.heap[g]? = some (.cells vs.toArray tt (0, 0))) (hn : o + n * sz ≤ vs.length) :
  (Builtin.clear_ #[t] ty #[.slice (some ⟨g, o, none⟩) n c]).run P W = .ok (.tuple #[]) (W.setCells g o (Builtin.zeroCells z.cells n).toList) := by
 have hzl : (Builtin.zeroCells z.cells n).toList.length = n * sz := by simp [Builtin.zeroCells, hz]
 cases n with
 | zero =>
  have : (Builtin.zeroCells z.cells 0).toList = [] := List.eq_nil_of_length_eq_zero (by rw [hzl]; simp)
  rw [this]
  simp [Builtin.clear_, run_underlying ht, World.setCells]
 | succ n =>
  have hs := zcv (P := P) (cs := (Builtin.zeroCells z.cells (n + 1)).toList) hg (by rw [hzl]; exact hn) (fun v hv => by
   rw [Array.mem_toList_iff] at hv
   simp only [Builtin.zeroCells, Array.mem_map] at hv
   obtain ⟨i, hi, rfl⟩ := hv
   have hpos : 0 < z.cells.size := by
    rcases Nat.eq_zero_or_pos z.cells.size with h | h
    ·rw [h] at hi; simp at hi
    ·exact h
   have hlt : i % z.cells.size < z.cells.size := Nat.mod_lt _ hpos
   rw [getElem!_pos z.cells _ hlt]
   exact h1 _ (by simp))
  simp [Builtin.clear_, run_underlying ht, hv, hs]
theorem ze6 {t t' e ty sz : Nat} (ht : P.underlying t = some (.slice e)) (hsz : (P.info? e).map (·.size) = some sz) {g o dLen dCap sLen sCap tt : Nat} {a : Addr} {vs cs : List Value} (hg : W.heap[g]? = some (.cells vs.toArray tt (0, 0))) (hl : cs.length = Nat.min sLen dLen * sz) (hsrc : ∀ j v, cs[j]? = some v → W.cell? (a.add j) = some v) (hn : o + cs.length ≤ vs.length) (h1 : ∀ v ∈ cs, v.oneCell' = true) :
  (Builtin.copy_ #[t, t'] ty #[.slice (some ⟨g, o, none⟩) dLen dCap, .slice (some a) sLen sCap]).run P W = .ok (goInt (Nat.min sLen dLen)) (W.setCells g o cs) := by
 have hs := zcv (P := P) hg hn h1
 have hlc := run_loadCells_list (P := P) W a cs hsrc
 cases hq : P.info? e with
 | none => simp [hq] at hsz
 | some i =>
  have hi : i.size = sz := by simpa [hq] using hsz
  simp [Builtin.copy_, run_underlying ht, Builtin.lenOf, Builtin.firstCells, sizeOf, typeInfo, hq, hi, ← hl, hlc, hs]
end
theorem z07u {pre mid post us : List Value} {o : Nat} (ho : o = pre.length) (h : us.length = mid.length) : z0z (pre ++ mid ++ post) o us = pre ++ us ++ post := by subst ho; exact zhm us pre mid post h
theorem z7j {vs us : List Value} {o : Nat} (h : o + us.length ≤ vs.length) : z0z vs o us = vs.take o ++ us ++ vs.drop (o + us.length) := by
 have e : vs = vs.take o ++ (vs.drop o).take us.length ++ vs.drop (o + us.length) := by
  rw [List.append_assoc, ← List.drop_drop, List.take_append_drop, List.take_append_drop]
 have h1 : o = (vs.take o).length := by rw [List.length_take]; omega
 have h2 : us.length = ((vs.drop o).take us.length).length := by rw [List.length_take, List.length_drop]; omega
 conv => lhs; rw [e]
 exact z07u h1 h2
theorem zfy {sz : Nat} : ∀ {xs : List (List Dt)}, (∀ x ∈ xs, x.length = sz) → xs.flatten.length = xs.length * sz
 | [], _ => by simp
 | x :: xs, h => by rw [List.flatten_cons, List.length_append, h x (List.mem_cons_self ..), zfy fun y hy => h y (List.mem_cons_of_mem _ hy), List.length_cons, Nat.succ_mul, Nat.add_comm]
theorem ze7 {sz : Nat} : ∀ {xs : List (List Dt)} (i : Nat), (∀ x ∈ xs, x.length = sz) → (xs.take i).flatten = xs.flatten.take (i * sz)
 | [], i, _ => by simp
 | x :: xs, 0, _ => by simp
 | x :: xs, i + 1, h => by
  have hx := h x (List.mem_cons_self ..)
  rw [List.take_succ_cons, List.flatten_cons, List.flatten_cons, ze7 i fun y hy => h y (List.mem_cons_of_mem _ hy), List.take_append, hx, List.take_of_length_le (show x.length ≤ (i + 1) * sz by rw [hx, Nat.succ_mul]; omega), Nat.succ_mul, Nat.add_sub_cancel]
theorem zjl {sz : Nat} {xs : List (List Dt)} (i : Nat) (h : ∀ x ∈ xs, x.length = sz) : (xs.drop i).flatten = xs.flatten.drop (i * sz) := by
 have e : xs.flatten = (xs.take i).flatten ++ (xs.drop i).flatten := by rw [← List.flatten_append, List.take_append_drop]
 by_cases hi : i ≤ xs.length
 ·have h1 : (xs.take i).flatten.length = i * sz := by rw [zfy fun y hy => h y (List.mem_of_mem_take hy), List.length_take, Nat.min_eq_left hi]
  rw [e, ← h1, List.drop_left]
 ·rw [List.drop_of_length_le (by omega), List.drop_of_length_le]
  ·rfl
  ·rw [zfy h]; exact Nat.mul_le_mul_right _ (by omega)
section
variable {P : Program}
theorem z055 {α : Type} [Enc α] {f e sz : Nat} (hn : Enc.n α = sz) (hpos : 0 < sz) (hen : En P f) (zc : Array Value) (hzc : zc.size = sz)
  (h0 : ∀ (W : World) (A : Option Addr) (n cap i : Nat), i ≤ n → n ≤ cap → cap ≤ maxLen → Calls P f #[.slice A n cap, .int .i64 i, .int .i64 i] W fun r W' => r = .returned (.slice A n cap) ∧ W' = W)
  (hw : ∀ (W : World) (g n cap i j : Nat) (vs : List Value), W.heap[g]? = some (.cells vs.toArray e (0, 0)) → n ≤ cap → cap ≤ maxLen → vs.length = cap * sz → (∀ u ∈ vs.take (n * sz), u.oneCell' = true) → i < j → j ≤ n →
   Calls P f #[.slice (some ⟨g, 0, none⟩) n cap, .int .i64 i, .int .i64 j] W fun r W' => r = .returned (.slice (some ⟨g, 0, none⟩) (n - (j - i)) cap) ∧ W' = ((W.drewN 1).setCells g (i * sz) ((vs.take (n * sz)).drop (j * sz))).setCells g ((i + (n - j)) * sz) (Builtin.zeroCells zc (j - i)).toList) :
  Meets P (spD (fun x : List α × Int × Int => 0 ≤ x.2.1 ∧ x.2.1 ≤ x.2.2 ∧ x.2.2 ≤ x.1.length) fun x => x.1.take x.2.1.toNat ++ x.1.drop x.2.2.toNat) f ⟨[.mine e sz, .one, .one], [(false, [.fresh e sz])], false⟩ := by
 refine ⟨fun h => (by cases h), ?_⟩
 intro e' sz' ps hps
 injection hps with h1 h2
 injection h1 with h1 h1'
 subst h1; subst h1'; subst h2
 intro W F base v xs cells ds args rs hF hbase hvF hxs hown hreps hargs hsp
 obtain ⟨⟨l, i, j⟩, ⟨hi0, hij, hjl⟩, he, rfl⟩ := zq hsp
 have he' : Dt.l sz xs :: ds = Dt.l (Enc.n α) (l.map Enc.e) :: [I i, I j] := he
 injection he' with g1 g2
 injection g1 with g3 g1
 subst g2; subst g1
 simp only at hi0 hij hjl
 obtain ⟨va, vas, rfl, ha, hargs⟩ := z0h hargs
 obtain ⟨vb, vbs, rfl, hb, hargs⟩ := z0h hargs
 obtain rfl := z1m hargs
 obtain ⟨rfl, _⟩ := z21 ha
 obtain ⟨rfl, _⟩ := z21 hb
 obtain ⟨a, rfl⟩ : ∃ a : Nat, i = a := ⟨i.toNat, by omega⟩
 obtain ⟨b, rfl⟩ : ∃ b : Nat, j = b := ⟨j.toNat, by omega⟩
 have hlen : (l.map Enc.e).length = l.length := List.length_map _
 rw [hlen] at hown
 refine ⟨(l.take a ++ l.drop b).map Enc.e, ?_, fun x hx => hxs x ?_, ?_⟩
 ·show [Dt.l (Enc.n α) _] = _
  rw [hn]; rfl
 ·rw [List.map_append, List.map_take, List.map_drop] at hx
  rcases List.mem_append.1 hx with hx | hx
  ·exact List.mem_of_mem_take hx
  ·exact List.mem_of_mem_drop hx
 by_cases hab : a = b
 ·subst hab
  have hsame : l.take a ++ l.drop a = l := List.take_append_drop ..
  simp only [Int.toNat_natCast, hsame]
  have hv : ∃ A cap, v = .slice A l.length cap ∧ l.length ≤ cap ∧ cap ≤ maxLen := by
   rcases hown.2 with ⟨rfl, h0⟩ | ⟨g, cap, cur, rfl, _, _, h1, h2, _⟩
   ·exact ⟨none, 0, by rw [h0], by omega, by unfold maxLen; omega⟩
   ·exact ⟨_, cap, rfl, h1, h2⟩
  obtain ⟨A, cap, rfl, h1, h2⟩ := hv
  refine .inl ⟨hen.run _ _, (h0 W A l.length cap a (by omega) h1 h2).mono ?_⟩
  rintro r W' ⟨rfl, rfl⟩
  exact ⟨_, rfl, _, cells, ⟨fun h => (by cases h), fun _ => rfl⟩, World.grownBy.refl _ _, by rw [hlen]; exact hown, hreps, fun _ h => .inl h⟩
 ·rcases hown.2 with ⟨rfl, h0⟩ | ⟨g, cap, cur, rfl, hbg, hg, h1, h2, hcs, htk⟩
  ·omega
  ·have hkeep := hown
   have hml : cells.length = l.length * sz := hown.1
   have hcs' : cur.toList.length = cap * sz := by simpa using hcs
   have hones : ∀ u ∈ cur.toList.take (l.length * sz), u.oneCell' = true := by rw [htk]; exact hreps.one
   refine .inl ⟨hen.run _ _, (hw W g l.length cap a b cur.toList (by simpa using hg) h1 h2 hcs' hones (by omega) (by omega)).mono ?_⟩
   rintro r W' ⟨rfl, rfl⟩
   have hgF : ¬ F g := hvF g rfl
   generalize hW1 : (W.drewN 1).setCells g (a * sz) ((cur.toList.take (l.length * sz)).drop (b * sz)) = W1
   have hg0 : (W.drewN 1).heap[g]? = some (.cells cur.toList.toArray e (0, 0)) := by simpa using hg
   have hnl : ((cur.toList.take (l.length * sz)).drop (b * sz)).length = (l.length - b) * sz := by
    rw [htk, List.length_drop, hml, Nat.sub_mul]
   have hzl : (Builtin.zeroCells zc (b - a)).toList.length = (b - a) * sz := by simp [Builtin.zeroCells, hzc]
   have hg1 := z13 ((cur.toList.take (l.length * sz)).drop (b * sz)) (a * sz) (W.drewN 1) cur.toList hg0
   rw [hW1] at hg1
   have hg2 := z13 (Builtin.zeroCells zc (b - a)).toList ((a + (l.length - b)) * sz) W1 _ hg1
   have hmul1 : a * sz + (l.length - b) * sz = (a + (l.length - b)) * sz := (Nat.add_mul ..).symm
   have hle1 : (a + (l.length - b)) * sz ≤ cap * sz := Nat.mul_le_mul_right _ (by omega)
   have hle2 : (a + (l.length - b)) * sz + (b - a) * sz ≤ cap * sz := by rw [← Nat.add_mul]; exact Nat.mul_le_mul_right _ (by omega)
   have hle3 : a * sz ≤ l.length * sz := Nat.mul_le_mul_right _ (by omega)
   have hle4 : l.length * sz ≤ cap * sz := Nat.mul_le_mul_right _ h1
   have hfar : ∀ k, k ≠ g → (W1.setCells g ((a + (l.length - b)) * sz) (Builtin.zeroCells zc (b - a)).toList).heap[k]? = W.heap[k]? := by
    intro k hk
    rw [z1e g _ _ _ k hk, ← hW1, z1e g _ _ _ k hk]
    rfl
   refine ⟨_, rfl, _, cells.take (a * sz) ++ cells.drop (b * sz), ⟨fun h => (by cases h), fun _ => rfl⟩, ?_, ?_, ?_, fun _ h => .inl h⟩
   ·obtain ⟨k1, k2, k3, k4⟩ := z2s g (Builtin.zeroCells zc (b - a)).toList ((a + (l.length - b)) * sz) W1
    obtain ⟨q1, q2, q3, q4⟩ := z2s g ((cur.toList.take (l.length * sz)).drop (b * sz)) (a * sz) (W.drewN 1)
    rw [hW1] at q1 q2 q3 q4
    refine ⟨k1.trans q1, k2.trans q2, k3.trans q3, ?_, fun k hk hne => hfar k fun h => hne (by rw [h]; rfl)⟩
    rw [k4, q4]
    exact Nat.le_refl _
   ·have hl2 : ((l.take a ++ l.drop b).map (Enc.e (α := α))).length = a + (l.length - b) := by
     rw [List.length_map, List.length_append, List.length_take, List.length_drop]; omega
    rw [hl2]
    refine ⟨?_, .inr ⟨g, cap, _, by rw [show l.length - (b - a) = a + (l.length - b) by omega], hbg, hg2, by omega, h2, ?_, ?_⟩⟩
    ·rw [List.length_append, List.length_take, List.length_drop, hml, Nat.min_eq_left hle3, ← Nat.sub_mul, hmul1]
    ·rw [List.size_toArray, z11, z11]; exact hcs'
    ·rw [List.toList_toArray, z7j (by rw [z11, hzl]; omega), List.append_assoc, List.take_append_of_le_length (by rw [List.length_take, z11]; omega), List.take_take, Nat.min_self, z7j (by rw [hnl]; omega), List.take_append_of_le_length (by rw [List.length_append, List.length_take, hnl]; omega), List.take_of_length_le (by rw [List.length_append, List.length_take, hnl]; omega), htk]
     congr 1
     rw [← htk, List.take_take, Nat.min_eq_left hle3]
   ·rw [List.map_append, List.map_take, List.map_drop, List.flatten_append, ze7 a hxs, zjl b hxs]
    have hag : Agree F W (W1.setCells g ((a + (l.length - b)) * sz) (Builtin.zeroCells zc (b - a)).toList) := fun k hk => hfar k fun h => hgF (h ▸ hk)
    exact ((hreps.take (a * sz)).append (hreps.drop (b * sz))).mono hag (fun _ h => h)
theorem zv4 {tS tR e sz : Nat} {W : World} (ht : P.underlying tS = some (.slice e)) (hz : ∀ w, (sizeOf e).run P w = .ok sz w) {g o b off la ca lb cb t : Nat} {vs : List Value} (hg : W.heap[g]? = some (.cells vs.toArray t (0, 0))) (hvs : 0 < vs.length) (hne : b ≠ g) {u : Value} (hb : W.cell? ⟨b, off, none⟩ = some u) :
  (Extern.SlicesOverlaps.overlaps #[tS, tS] #[tR] #[.slice (some ⟨b, off, none⟩) la ca, .slice (some ⟨g, o, none⟩) lb cb]).run P W = .ok (.bool false) W := by
 have hnb : (b != g) = true := by simpa using hne
 have hnb' : (b == g) = false := by simpa using hne
 obtain ⟨arr, tb, fr, hbh, hsz⟩ : ∃ arr tb fr, W.heap[b]? = some (.cells arr tb fr) ∧ 0 < arr.size := by
  unfold World.cell? at hb
  split at hb
  ·rename_i arr tb fr h
   simp at hb
   obtain ⟨hlt, _⟩ := Array.getElem?_eq_some_iff.1 hb
   exact ⟨arr, tb, fr, h, by omega⟩
  ·cases hb
 have hsa : W.shape? b = some (tb, arr.size) := by simp [World.shape?, hbh]
 have hsb : W.shape? g = some (t, vs.length) := by simp [World.shape?, hg]
 have hfg : ∀ k, W.frozen? ⟨g, k, none⟩ = false := fun k => by simp [World.frozen?, hg]
 obtain ⟨n1, hn1⟩ : ∃ n, arr.size = n + 1 := ⟨arr.size - 1, by omega⟩
 obtain ⟨n2, hn2⟩ : ∃ n, vs.length = n + 1 := ⟨vs.length - 1, by omega⟩
 rw [hn1] at hsa
 rw [hn2] at hsb
 change Sem.run P (α := Value) (do
  let some t := (#[tS, tS] : Array TypeId)[0]? | stuck "slices.overlaps: no parameter types"
  let .slice elem ← underlying t | stuck "slices.overlaps: slice type expected"
  let size ← sizeOf elem
  match (some ⟨b, off, none⟩ : Option Addr), (some ⟨g, o, none⟩ : Option Addr) with
  | some a, some b =>
   if la = 0 ∨ lb = 0 ∨ size = 0 then pure (Value.bool false)
   else if a.block != b.block && (← frozen a) && (← frozen b) then unsupported .addressObserved
   else do
    if a.block != b.block then do
     noView a; noView b
     if ← mayBeOne a b then return Value.bool ((← choose (.extern "sameAddr.stringBytes" 2)) == 1)
    pure (Value.bool (a.block == b.block && a.off < b.off + lb * size && b.off < a.off + la * size))
  | _, _ => pure (Value.bool false)) W = _
 by_cases h0 : la = 0 ∨ lb = 0 ∨ sz = 0
 ·simp [run_underlying ht, hz, h0]
 ·cases hf1 : W.frozen? ⟨b, off, none⟩ <;> cases hf2 : W.frozen? ⟨b, n1 + 1, none⟩ <;>
   simp [run_underlying ht, hz, h0, hnb, hnb', frozen, noView, viewAt, mayBeOne, stringish, shape, Sem.run, hsa, hsb, hfg, hf1, hf2]
theorem zh9 {W : World} {b k : Nat} {v : Value} (o : Obj) (h : W.cell? ⟨b, k, none⟩ = some v) : (W.alloc o).cell? ⟨b, k, none⟩ = some v := by
 have hlt : b < W.heap.size := by
  rcases Nat.lt_or_ge b W.heap.size with h' | h'
  ·exact h'
  ·simp [World.cell?, Array.getElem?_eq_none h'] at h
 rw [← h]
 simp only [World.cell?, World.alloc, Array.getElem?_push, Nat.ne_of_lt hlt, if_false]
theorem z056 {W : World} {g o b k : Nat} {us : List Value} (h : b ≠ g) : (W.setCells g o us).cell? ⟨b, k, none⟩ = W.cell? ⟨b, k, none⟩ := by
 simp only [World.cell?, z1e g us o W b h]
theorem z057 {W : World} {o : Oper} {a : Act} {K : Act → World → Prop} {Q : Exit → Act → World → Prop} (d s : Operand) (t t' : TypeId)
  (ho : o.op = .call { callee := .builtin .copy, args := #[d, s], argTypes := #[t, t'] }) (v u : Value) (hd : a.eval d = v) (hs : a.eval s = u) {v' : Value} {w' : World}
  (hr : (Builtin.copy_ #[t, t'] o.type #[v, u]).run P W = .ok v' w') (h : K (a.put o.dst v') w') : o.wp P a W K Q := by
 unfold Oper.wp execOp
 simp only [ho, resolve, invoke, builtin, Sem.run_bind, Sem.run_pure, Result.andThen_ok, List.map_toArray, List.map_cons, List.map_nil, hd, hs, hr]
 exact h
theorem z9k {W : World} {ops : Array Oper} {rest : List Oper} {o : Oper} {a : Act} {Q : Exit → Act → World → Prop} (hgd : o.guard = none) (d s : Operand) (t t' : TypeId)
  (ho : o.op = .call { callee := .builtin .copy, args := #[d, s], argTypes := #[t, t'] }) (v u : Value) (hd : a.eval d = v) (hs : a.eval s = u) {v' : Value} {w' : World}
  (hr : (Builtin.copy_ #[t, t'] o.type #[v, u]).run P W = .ok v' w') (h : wpList P ops Q rest (a.put o.dst v') w') : wpList P ops Q (o :: rest) a W :=
 wpList_plain hgd fun _ hK => z057 d s t t' ho v u hd hs hr (hK _ _ h)
theorem zha {ops : Array Oper} {o : Oper} {a : Act} {W : World} {K : Act → World → Prop} {Q : Exit → Act → World → Prop} {E : Prop}
  (hg : o.guard = none) (d x : Operand) (dT sT : TypeId) (hop : o.op = Op.call { callee := Callee.builtin Builtin.copy, args := #[d, x], argTypes := #[dT, sT] })
  (v u : Value) (hd : a.eval d = v) (hx : a.eval x = u) {v' : Value} {w' : World} (hr : (Builtin.copy_ #[dT, sT] o.type #[v, u]).run P W = .ok v' w') (hK : K (a.put o.dst v') w') :
  if Region.wanted o (yielded ops a.tmps) = true then Oper.wp P o a W K Q else E := by
 have hw : Region.wanted o (yielded ops a.tmps) = true := by simp [Region.wanted, hg]
 rw [if_pos hw]
 unfold Oper.wp
 simp [execOp, hop, resolve, invoke, builtin, hd, hx, hr, Result.andThen]
 exact hK
theorem z058 {α : Type} [Enc α] {f e sz : Nat} (hn : Enc.n α = sz) (hpos : 0 < sz) (hen : En P f)
  (hroom : ∀ (W : World) (g n cap i b off c : Nat) (vs cs : List Value), W.heap[g]? = some (.cells vs.toArray e (0, 0)) → n < cap → cap ≤ maxLen → vs.length = cap * sz → (∀ u ∈ vs.take (n * sz), u.oneCell' = true) → i < n → b ≠ g → cs.length = sz → (∀ j v, cs[j]? = some v → W.cell? ⟨b, off + j, none⟩ = some v) → (∀ v ∈ cs, v.oneCell' = true) →
   Calls P f #[.slice (some ⟨g, 0, none⟩) n cap, .int .i64 i, .slice (some ⟨b, off, none⟩) 1 c] W fun r W' => r = .returned (.slice (some ⟨g, 0, none⟩) (n + 1) cap) ∧ W' = ((W.drewN 1).setCells g ((i + 1) * sz) ((vs.take (n * sz)).drop (i * sz))).setCells g (i * sz) cs)
  (hend : ∀ (W : World) (base : Nat) (v : Value) (n b off c : Nat) (olds cs : List Value), W.ownsRow base e sz v n olds → base ≤ W.heap.size → n ≤ 1000000 → cs.length = sz → (∀ j v, cs[j]? = some v → W.cell? ⟨b, off + j, none⟩ = some v) → (∀ v ∈ cs, v.oneCell' = true) →
   Calls P f #[v, .int .i64 n, .slice (some ⟨b, off, none⟩) 1 c] W fun r W' => ∃ v', r = .returned v' ∧ W'.ownsRow base e sz v' (n + 1) (olds ++ cs) ∧ W.grownBy W' v.ownBlock ∧ (v'.ownBlock = v.ownBlock ∨ v'.ownBlock = some W.heap.size))
  (hgrow : ∀ (W : World) (g n cap i b off c : Nat) (vs cs : List Value), W.heap[g]? = some (.cells vs.toArray e (0, 0)) → n = cap → n ≤ 1000000 → vs.length = cap * sz → (∀ u ∈ vs.take (n * sz), u.oneCell' = true) → i < n → cs.length = sz → (∀ j v, cs[j]? = some v → W.cell? ⟨b, off + j, none⟩ = some v) → (∀ v ∈ cs, v.oneCell' = true) →
   Calls P f #[.slice (some ⟨g, 0, none⟩) n cap, .int .i64 i, .slice (some ⟨b, off, none⟩) 1 c] W fun r W' => ∃ G, ∃ row : List Value, n + 1 ≤ G ∧ G ≤ maxLen ∧ row.length = G * sz ∧ r = .returned (.slice (some ⟨W.heap.size, 0, none⟩) (n + 1) G) ∧ (∀ u ∈ row.take (i * sz), u.oneCell' = true) ∧ row.take (i * sz) = vs.take (i * sz) ∧
    W' = (((W.alloc (.cells row.toArray e)).drew.setCells W.heap.size (i * sz) cs).drew).setCells W.heap.size ((i + 1) * sz) ((vs.take (n * sz)).drop (i * sz))) :
  Meets P (spD (fun x : List α × Int × List α => 0 ≤ x.2.1 ∧ x.2.1 ≤ x.1.length ∧ x.1.length ≤ 1000000 ∧ x.2.2.length = 1) fun x => x.1.take x.2.1.toNat ++ x.2.2 ++ x.1.drop x.2.1.toNat) f ⟨[.mine e sz, .one, .one], [(false, [.fresh e sz])], false⟩ := by
 refine ⟨fun h => (by cases h), ?_⟩
 intro e' sz' ps hps
 injection hps with h1 h2
 injection h1 with h1 h1'
 subst h1; subst h1'; subst h2
 intro W F base v xs cells ds args rs hF hbase hvF hxs hown hreps hargs hsp
 obtain ⟨⟨l, i, ys⟩, ⟨hi0, hil, hlm, hy1⟩, he, rfl⟩ := zq hsp
 have he' : Dt.l sz xs :: ds = Dt.l (Enc.n α) (l.map Enc.e) :: [I i, .l (Enc.n α) (ys.map Enc.e)] := he
 injection he' with g1 g2
 injection g1 with g3 g1
 subst g2; subst g1
 simp only at hi0 hil hlm hy1
 obtain ⟨y, rfl⟩ := List.length_eq_one_iff.1 hy1
 obtain ⟨va, vas, rfl, ha, hargs⟩ := z0h hargs
 obtain ⟨vb, vbs, rfl, hb, hargs⟩ := z0h hargs
 obtain rfl := z1m hargs
 obtain ⟨rfl, _⟩ := z21 ha
 obtain ⟨a, rfl⟩ : ∃ a : Nat, i = a := ⟨i.toNat, by omega⟩
 have hlen : (l.map Enc.e).length = l.length := List.length_map _
 have hyl : (Enc.e y).length = sz := by rw [Enc.len, hn]
 rw [hlen] at hown
 have hml : cells.length = l.length * sz := hown.1
 obtain ⟨b, off, c, cs, rfl, hFb, hcl, hcell, hcr⟩ : ∃ b off c, ∃ cs : List Value, vb = .slice (some ⟨b, off, none⟩) 1 c ∧ F b ∧ cs.length = sz ∧ (∀ j v, cs[j]? = some v → W.cell? ⟨b, off + j, none⟩ = some v) ∧ Reps W F (Enc.e y) cs := by
  generalize hd : Dt.l (Enc.n α) ([y].map Enc.e) = d at hb
  cases hb with
  | l sz0 zs A n c b o vs k0 k1 k2 k3 k4 k5 k6 =>
   injection hd with e1 e2
   subst e2
   obtain ⟨rfl, hFb⟩ := k4 (by simp)
   refine ⟨b, o, c, (List.range sz).map (vs 0), by rw [k0]; rfl, hFb, by simp, fun j v hv => ?_, Reps.of (by simp [hyl]) fun j d v hd hv => ?_⟩
   ·obtain ⟨hj, rfl⟩ := z1q hv
    have h := k5 0 j (Enc.e y) _ rfl (List.getElem?_eq_getElem (by omega))
    rwa [Nat.zero_mul, Nat.add_zero] at h
   ·obtain ⟨hj, rfl⟩ := z1q hv
    exact k6 0 j (Enc.e y) d rfl hd
  | _ => cases hd
 have hc1 : ∀ v ∈ cs, v.oneCell' = true := hcr.one
 refine ⟨(l.take a ++ [y] ++ l.drop a).map Enc.e, ?_, fun x hx => ?_, ?_⟩
 ·show [Dt.l (Enc.n α) _] = _
  rw [hn]; rfl
 ·obtain ⟨z, _, rfl⟩ := List.mem_map.1 hx
  rw [Enc.len, hn]
 have hl2 : ((l.take a ++ [y] ++ l.drop a).map (Enc.e (α := α))).length = l.length + 1 := by
  rw [List.length_map, List.length_append, List.length_append, List.length_take, List.length_drop, List.length_singleton]; omega
 have hflat : ((l.take a ++ [y] ++ l.drop a).map (Enc.e (α := α))).flatten = (l.map Enc.e).flatten.take (a * sz) ++ Enc.e y ++ (l.map Enc.e).flatten.drop (a * sz) := by
  rw [List.map_append, List.map_append, List.map_take, List.map_drop, List.flatten_append, List.flatten_append, ze7 a hxs, zjl a hxs]
  simp
 rw [hl2, hflat]
 have hle3 : a * sz ≤ l.length * sz := Nat.mul_le_mul_right _ (by omega)
 have hnew : ∀ {W' : World}, Agree F W W' → Reps W' F ((l.map Enc.e).flatten.take (a * sz) ++ Enc.e y ++ (l.map Enc.e).flatten.drop (a * sz)) (cells.take (a * sz) ++ cs ++ cells.drop (a * sz)) := fun hag => (((hreps.take (a * sz)).append hcr).append (hreps.drop (a * sz))).mono hag (fun _ h => h)
 have hnl : (cells.take (a * sz) ++ cs ++ cells.drop (a * sz)).length = (l.length + 1) * sz := by
  rw [List.length_append, List.length_append, List.length_take, List.length_drop, hcl, hml, Nat.min_eq_left hle3, Nat.succ_mul]; omega
 by_cases hend' : a = l.length
 ·subst hend'
  refine .inl ⟨hen.run _ _, (hend W base v l.length b off c cells cs hown hbase (by omega) hcl hcell hc1).mono ?_⟩
  rintro r W' ⟨v', rfl, q1, q2, q3⟩
  have hag : Agree F W W' := fun k hk => q2.block k (hF.1 k hk) fun h => hvF k h.symm hk
  refine ⟨_, rfl, v', _, ⟨fun h => (by cases h), fun _ => rfl⟩, q2, ?_, hnew hag, fun k hk => ?_⟩
  ·rw [List.take_of_length_le (by omega), List.drop_of_length_le (by omega), List.append_nil]; exact q1
  ·rcases q3 with q3 | q3
   ·exact .inl (q3 ▸ hk)
   ·rw [q3] at hk; injection hk with hk; exact .inr (Nat.le_of_eq hk)
 ·rcases hown.2 with ⟨rfl, h0⟩ | ⟨g, cap, cur, rfl, hbg, hg, h1, h2, hcs, htk⟩
  ·omega
  ·have hcs' : cur.toList.length = cap * sz := by simpa using hcs
   have hones : ∀ u ∈ cur.toList.take (l.length * sz), u.oneCell' = true := by rw [htk]; exact hreps.one
   have hgF : ¬ F g := hvF g rfl
   have hbg' : b ≠ g := fun h => hgF (h ▸ hFb)
   have hg' : W.heap[g]? = some (.cells cur.toList.toArray e (0, 0)) := by simpa using hg
   have hal : a < l.length := by omega
   have hmvl : ((cur.toList.take (l.length * sz)).drop (a * sz)).length = (l.length - a) * sz := by rw [htk, List.length_drop, hml, Nat.sub_mul]
   have e1 : (a + 1) * sz = a * sz + sz := Nat.succ_mul ..
   have e2 : (a + 1) * sz + (l.length - a) * sz = (l.length + 1) * sz := by rw [← Nat.add_mul]; congr 1; omega
   have hsplit : ∀ vs' : List Value, (l.length + 1) * sz ≤ vs'.length → vs'.take (a * sz) = cells.take (a * sz) → (z0z (z0z vs' ((a + 1) * sz) ((cur.toList.take (l.length * sz)).drop (a * sz))) (a * sz) cs).take ((l.length + 1) * sz) = cells.take (a * sz) ++ cs ++ cells.drop (a * sz) := by
    intro vs' hl' ht'
    have k1 : a * sz + cs.length ≤ (z0z vs' ((a + 1) * sz) ((cur.toList.take (l.length * sz)).drop (a * sz))).length := by rw [z11]; omega
    rw [z7j k1, z7j (by rw [hmvl]; omega), hcl, hmvl, e2, htk]
    have k2 : (vs'.take ((a + 1) * sz) ++ cells.drop (a * sz) ++ vs'.drop ((l.length + 1) * sz)).take (a * sz) = cells.take (a * sz) := by
     rw [List.append_assoc, List.take_append_of_le_length (by rw [List.length_take]; omega), List.take_take, Nat.min_eq_left (by omega), ht']
    have k3 : (vs'.take ((a + 1) * sz) ++ cells.drop (a * sz) ++ vs'.drop ((l.length + 1) * sz)).drop (a * sz + sz) = cells.drop (a * sz) ++ vs'.drop ((l.length + 1) * sz) := by
     rw [List.append_assoc, List.drop_append, List.drop_of_length_le (by rw [List.length_take]; omega), List.length_take, Nat.min_eq_left (by omega), e1, Nat.sub_self, List.nil_append, List.drop_zero]
    rw [k2, k3, ← List.append_assoc, List.take_append_of_le_length (by rw [hnl]; omega), List.take_of_length_le (by rw [hnl]; omega)]
   rcases Nat.lt_or_ge l.length cap with hr | hr
   ·have hcapm : (l.length + 1) * sz ≤ cap * sz := Nat.mul_le_mul_right _ hr
    refine .inl ⟨hen.run _ _, (hroom W g l.length cap a b off c cur.toList cs hg' hr h2 hcs' hones hal hbg' hcl hcell hc1).mono ?_⟩
    rintro r W' ⟨rfl, rfl⟩
    have hfar : ∀ k, k ≠ g → (((W.drewN 1).setCells g ((a + 1) * sz) ((cur.toList.take (l.length * sz)).drop (a * sz))).setCells g (a * sz) cs).heap[k]? = W.heap[k]? := by
     intro k hk
     rw [z1e g _ _ _ k hk, z1e g _ _ _ k hk]
     rfl
    have hag : Agree F W (((W.drewN 1).setCells g ((a + 1) * sz) ((cur.toList.take (l.length * sz)).drop (a * sz))).setCells g (a * sz) cs) := fun k hk => hfar k fun h => hgF (h ▸ hk)
    refine ⟨_, rfl, _, _, ⟨fun h => (by cases h), fun _ => rfl⟩, ?_, ⟨hnl, .inr ⟨g, cap, _, rfl, hbg, z13 cs (a * sz) _ _ (z13 _ ((a + 1) * sz) (W.drewN 1) _ hg'), hr, h2, by rw [List.size_toArray, z11, z11]; exact hcs', ?_⟩⟩, hnew hag, fun _ h => .inl h⟩
    ·obtain ⟨k1, k2, k3, k4⟩ := z2s g cs (a * sz) ((W.drewN 1).setCells g ((a + 1) * sz) ((cur.toList.take (l.length * sz)).drop (a * sz)))
     obtain ⟨q1, q2, q3, q4⟩ := z2s g ((cur.toList.take (l.length * sz)).drop (a * sz)) ((a + 1) * sz) (W.drewN 1)
     exact ⟨k1.trans q1, k2.trans q2, k3.trans q3, by rw [k4, q4]; exact Nat.le_refl _, fun k hk hne => hfar k fun h => hne (by rw [h]; rfl)⟩
    ·rw [List.toList_toArray]
     refine hsplit _ (by omega) ?_
     rw [← htk, List.take_take, Nat.min_eq_left hle3]
   ·have hcap : l.length = cap := by omega
    refine .inl ⟨hen.run _ _, (hgrow W g l.length cap a b off c cur.toList cs hg' hcap (by omega) hcs' hones hal hcl hcell hc1).mono ?_⟩
    rintro r W' ⟨G, row, r1, r2, r3, rfl, r4, r5, rfl⟩
    have hGm : (l.length + 1) * sz ≤ G * sz := Nat.mul_le_mul_right _ r1
    generalize hW0 : (W.alloc (.cells row.toArray e)).drew = W0
    have hs0 : W0.heap.size = W.heap.size + 1 := by rw [← hW0]; show (W.heap.push _).size = _; simp
    have hn0 : W0.heap[W.heap.size]? = some (.cells row.toArray e (0, 0)) := by rw [← hW0]; exact heap_alloc_new W _
    have ho0 : ∀ k, k < W.heap.size → W0.heap[k]? = W.heap[k]? := fun k hk => by
     rw [← hW0]
     show (W.alloc (.cells row.toArray e)).heap[k]? = _
     simp only [World.alloc, Array.getElem?_push, Nat.ne_of_lt hk, if_false]
    have hfar : ∀ k, k < W.heap.size → (((W0.setCells W.heap.size (a * sz) cs).drew).setCells W.heap.size ((a + 1) * sz) ((cur.toList.take (l.length * sz)).drop (a * sz))).heap[k]? = W.heap[k]? := by
     intro k hk
     rw [z1e _ _ _ _ k (by omega)]
     show (W0.setCells W.heap.size (a * sz) cs).heap[k]? = _
     rw [z1e _ _ _ _ k (by omega), ho0 k hk]
    obtain ⟨z1, z2, z3⟩ : W0.os = W.os ∧ W0.tape = W.tape ∧ W0.output = W.output := by rw [← hW0]; exact ⟨rfl, rfl, rfl⟩
    have hag : Agree F W (((W0.setCells W.heap.size (a * sz) cs).drew).setCells W.heap.size ((a + 1) * sz) ((cur.toList.take (l.length * sz)).drop (a * sz))) := fun k hk => hfar k (hF.1 k hk)
    have hheap := z13 ((cur.toList.take (l.length * sz)).drop (a * sz)) ((a + 1) * sz) ((W0.setCells W.heap.size (a * sz) cs).drew) _ (z13 cs (a * sz) W0 _ hn0)
    refine ⟨_, rfl, _, _, ⟨fun h => (by cases h), fun _ => rfl⟩, ?_, ⟨hnl, .inr ⟨W.heap.size, G, _, rfl, hbase, hheap, r1, r2, by rw [List.size_toArray, z11, z11]; exact r3, ?_⟩⟩, hnew hag, fun k hk => ?_⟩
    ·obtain ⟨k1, k2, k3, k4⟩ := z2s W.heap.size ((cur.toList.take (l.length * sz)).drop (a * sz)) ((a + 1) * sz) ((W0.setCells W.heap.size (a * sz) cs).drew)
     obtain ⟨q1, q2, q3, q4⟩ := z2s W.heap.size cs (a * sz) W0
     refine ⟨k1.trans (q1.trans z1), k2.trans (q2.trans z2), k3.trans (q3.trans z3), ?_, fun k hk hne => hfar k hk⟩
     rw [k4]
     show W.heap.size ≤ (W0.setCells W.heap.size (a * sz) cs).heap.size
     rw [q4, hs0]; omega
    ·rw [List.toList_toArray]
     have hswap : z0z (z0z row (a * sz) cs) ((a + 1) * sz) ((cur.toList.take (l.length * sz)).drop (a * sz)) = z0z (z0z row ((a + 1) * sz) ((cur.toList.take (l.length * sz)).drop (a * sz))) (a * sz) cs := by
      have hL : a * sz + cs.length ≤ row.length := by omega
      have hR : (a + 1) * sz + ((cur.toList.take (l.length * sz)).drop (a * sz)).length ≤ row.length := by rw [hmvl]; omega
      rw [z7j (vs := z0z row (a * sz) cs) (by rw [z11]; exact hR), z7j hL, z7j (vs := z0z row ((a + 1) * sz) _) (by rw [z11]; exact hL), z7j hR]
      have t1 : (row.take (a * sz) ++ cs ++ row.drop (a * sz + cs.length)).take ((a + 1) * sz) = row.take (a * sz) ++ cs := by
       rw [List.take_append_of_le_length (by rw [List.length_append, List.length_take]; omega), List.take_of_length_le (by rw [List.length_append, List.length_take]; omega)]
      have t2 : (row.take (a * sz) ++ cs ++ row.drop (a * sz + cs.length)).drop ((a + 1) * sz + ((cur.toList.take (l.length * sz)).drop (a * sz)).length) = row.drop ((a + 1) * sz + ((cur.toList.take (l.length * sz)).drop (a * sz)).length) := by
       rw [List.drop_append, List.drop_of_length_le (by rw [List.length_append, List.length_take]; omega), List.nil_append, List.drop_drop]
       congr 1
       rw [List.length_append, List.length_take]; omega
      have t3 : (row.take ((a + 1) * sz) ++ ((cur.toList.take (l.length * sz)).drop (a * sz)) ++ row.drop ((a + 1) * sz + ((cur.toList.take (l.length * sz)).drop (a * sz)).length)).take (a * sz) = row.take (a * sz) := by
       rw [List.append_assoc, List.take_append_of_le_length (by rw [List.length_take]; omega), List.take_take, Nat.min_eq_left (by omega)]
      have t4 : (row.take ((a + 1) * sz) ++ ((cur.toList.take (l.length * sz)).drop (a * sz)) ++ row.drop ((a + 1) * sz + ((cur.toList.take (l.length * sz)).drop (a * sz)).length)).drop (a * sz + cs.length) = ((cur.toList.take (l.length * sz)).drop (a * sz)) ++ row.drop ((a + 1) * sz + ((cur.toList.take (l.length * sz)).drop (a * sz)).length) := by
       rw [List.append_assoc, List.drop_append, List.drop_of_length_le (by rw [List.length_take]; omega), List.nil_append, List.length_take, Nat.min_eq_left (by omega), hcl, e1, Nat.sub_self, List.drop_zero]
      rw [t1, t2, t3, t4, List.append_assoc, List.append_assoc]
     rw [hswap]
     refine hsplit _ (by omega) ?_
     rw [r5, ← htk, List.take_take, Nat.min_eq_left hle3]
    ·simp only [Value.ownBlock, Option.some.injEq] at hk
     exact .inr (Nat.le_of_eq hk)
end
end
section
open Go.RowKit
set_option maxRecDepth 100000
set_option maxHeartbeats 4000000
theorem z07v {W : World} {g n cap i j : Nat} {vs : List Value} (hg : W.heap[g]? = some (.cells vs.toArray 86 (0, 0))) (hn : n ≤ cap) (hm : cap ≤ maxLen) (hcs : vs.length = cap * 6) (h1 : ∀ u ∈ vs.take (n * 6), u.oneCell' = true) (hij : i < j) (hj : j ≤ n) :
  Calls Tryz.prog 135 #[.slice (some ⟨g, 0, none⟩) n cap, .int .i64 i, .int .i64 j] W fun e w' => e = .returned (.slice (some ⟨g, 0, none⟩) (n - (j - i)) cap) ∧
   w' = ((W.drewN 1).setCells g (i * 6) ((vs.take (n * 6)).drop (j * 6))).setCells g ((i + (n - j)) * 6) (Builtin.zeroCells #[.int .i64 0, .int .i64 0, .int .i64 0, .slice none 0 0, .int .i64 0, .bool false] (j - i)).toList := by
 have hm' : cap ≤ 9223372036854775807 := hm
 obtain ⟨news, hnews⟩ : ∃ news, news = (vs.take (n * 6)).drop (j * 6) := ⟨_, rfl⟩
 have hlen : news.length = (n - j) * 6 := by rw [hnews, List.length_drop, List.length_take]; omega
 have hg1 : W.drew.heap[g]? = some (.cells vs.toArray 86 (0, 0)) := hg
 obtain ⟨A, hA, hsrc⟩ : ∃ A : Addr, (if cap = j then some (⟨g, 0, none⟩ : Addr) else some ⟨g, j * 6, none⟩) = some A ∧ Hid (∀ t u, news[t]? = some u → W.drew.cell? (A.add t) = some u) := by
  by_cases h : cap = j
  ·refine ⟨⟨g, 0, none⟩, by simp [h], fun t u hu => ?_⟩
   have := (List.getElem?_eq_some_iff.1 hu).1
   omega
  ·refine ⟨⟨g, j * 6, none⟩, by simp [h], fun t u hu => ?_⟩
   have ht := (List.getElem?_eq_some_iff.1 hu).1
   rw [hnews, List.getElem?_drop, List.getElem?_take, if_pos (by omega)] at hu
   rw [z6b, cell_of_row _ g _ _ 86 (0, 0) hg1]
   simpa using hu
 have s1 : Hid (news.length = (n - j) * 6) := hlen
 have s2 : Hid (∀ u ∈ news, u.oneCell' = true) := by
  intro u hu
  rw [hnews] at hu
  exact h1 u (List.mem_of_mem_drop hu)
 have s3 : Hid (∀ t, t < news.length → (W.drew.cell? ⟨g, 0 + i * 6 + t, none⟩).isSome = true ∧ W.drew.frozen? ⟨g, 0 + i * 6 + t, none⟩ = false) := by
  intro t ht
  have := zf5 (fr := (0, 0)) hg1 (o := 0 + i * 6) (n := news.length) (by omega)
  exact this t ht
 obtain ⟨W1, hW1⟩ : ∃ W1, W1 = W.drew.setCells g (0 + i * 6) news := ⟨_, rfl⟩
 have hg2 : W1.heap[g]? = some (.cells (z0z vs (0 + i * 6) news).toArray 86 (0, 0)) := by rw [hW1]; exact z13 _ _ _ _ hg1
 have hcl : ∀ ty, (Builtin.clear_ #[25] ty #[.slice (some ⟨g, (i + (n - j)) * 6, none⟩) (n - (i + (n - j))) (cap - (i + (n - j)))]).run Tryz.prog W1 = .ok (.tuple #[]) (W1.setCells g ((i + (n - j)) * 6) (Builtin.zeroCells #[.int .i64 0, .int .i64 0, .int .i64 0, .slice none 0 0, .int .i64 0, .bool false] (n - (i + (n - j)))).toList) :=
  fun ty => z054 (sz := 6) Tryz.underlying25 Tryz.zeroValue86 rfl (by simp [Value.cells, Value.oneCell']) hg2 (by rw [z11]; omega)
 have hW : Hid (W1 = W.drew.setCells g (0 + i * 6) news) := hW1
 have hic : i ≤ cap := by omega
 have hjc : j ≤ cap := by omega
 have hnews := Lib.hid hnews
 clear hW1 hg2 hg hg1 hlen
 go_enter Tryz.func135, Tryz.ntmps135
 go_wp2_with fail
 obtain ⟨ht, ie, zv, he, hz0, hsz, hbz, hzs⟩ := zl0
 go_region_law (refine step_append_room rfl (.tmp 22) (.tmp 25) 25 rfl 86 ie 6 ht he hsz g 0 i cap (by simp [Act.eval, Act.put]) A (n - j) (cap - j) news (by simp [Act.eval, Act.put, hA]) s1.out hsrc.out s2.out (by omega) s3.out ?_; rw [← hW.out])
 go_wp2
 go_ret
 refine ⟨by rw [show n - (j - i) = i + (n - j) by omega]; rfl, ?_⟩
 rw [hW.out, Nat.zero_add, hnews.out, show n - (i + (n - j)) = j - i by omega]
 rfl
theorem z07w {W : World} {A : Option Addr} {n cap i : Nat} (hi : i ≤ n) (hn : n ≤ cap) (hm : cap ≤ maxLen) : Calls Tryz.prog 135 #[.slice A n cap, .int .i64 i, .int .i64 i] W fun r W' => r = .returned (.slice A n cap) ∧ W' = W := by
 have hm' : cap ≤ 9223372036854775807 := hm
 have hic : i ≤ cap := by omega
 go_enter Tryz.func135, Tryz.ntmps135
 go_wp2_with fail
 all_goals (go_ret; exact ⟨rfl, rfl⟩)
noncomputable def z67 : zd := spD (fun x : List Coin × Int × Int => 0 ≤ x.2.1 ∧ x.2.1 ≤ x.2.2 ∧ x.2.2 ≤ x.1.length) fun x => x.1.take x.2.1.toNat ++ x.1.drop x.2.2.toNat
theorem znr : Meets Tryz.prog z67 135 ⟨[.mine 86 6, .one, .one], [(false, [.fresh 86 6])], false⟩ :=
 z055 rfl (by decide) (z22 (fn := Tryz.f135) (by kernel_rfl) (by kernel_rfl) (by kernel_rfl)) #[.int .i64 0, .int .i64 0, .int .i64 0, .slice none 0 0, .int .i64 0, .bool false] rfl (fun W A n cap i h1 h2 h3 => z07w h1 h2 h3) (fun W g n cap i j vs h1 h2 h3 h4 h5 h6 h7 => z07v h1 h2 h3 h4 h5 h6 h7)
end
section
open Go.RowKit
set_option maxRecDepth 100000
set_option maxHeartbeats 4000000
theorem z07x {W : World} {g o b off la ca lb cb : Nat} {vs : List Value} (hg : W.heap[g]? = some (.cells vs.toArray 86 (0, 0))) (hvs : 0 < vs.length) (hne : b ≠ g) {u : Value} (hb : W.cell? ⟨b, off, none⟩ = some u) :
  (callFunc 142 #[.slice (some ⟨b, off, none⟩) la ca, .slice (some ⟨g, o, none⟩) lb cb]).run Tryz.prog W = .ok (.value (.bool false)) W := by
 rw [run_callFunc_extern Tryz.func142 (by kernel_rfl) (by kernel_rfl) (by kernel_rfl) (e := Extern.SlicesOverlaps.overlaps #[25, 25] #[4]) (by kernel_rfl),
  zv4 (e := 86) (sz := 6) Tryz.underlying25 Tryz.sizeOf86 hg hvs hne hb]
 rfl
theorem z07y {W : World} {g n cap i b off c : Nat} {vs cs : List Value} (hg : W.heap[g]? = some (.cells vs.toArray 86 (0, 0))) (hn : n < cap) (hm : cap ≤ maxLen) (hcs : vs.length = cap * 6) (h1 : ∀ u ∈ vs.take (n * 6), u.oneCell' = true) (hi : i < n) (hne : b ≠ g) (hcl : cs.length = 6) (hb : ∀ j v, cs[j]? = some v → W.cell? ⟨b, off + j, none⟩ = some v) (h1c : ∀ v ∈ cs, v.oneCell' = true) :
  Calls Tryz.prog 107 #[.slice (some ⟨g, 0, none⟩) n cap, .int .i64 i, .slice (some ⟨b, off, none⟩) 1 c] W fun r W' => r = .returned (.slice (some ⟨g, 0, none⟩) (n + 1) cap) ∧ W' = ((W.drewN 1).setCells g ((i + 1) * 6) ((vs.take (n * 6)).drop (i * 6))).setCells g (i * 6) cs := by
 have hm' : cap ≤ 9223372036854775807 := hm
 obtain ⟨mv, hmv⟩ : ∃ mv, mv = (vs.take (n * 6)).drop (i * 6) := ⟨_, rfl⟩
 have hlen : mv.length = (n - i) * 6 := by rw [hmv, List.length_drop, List.length_take]; omega
 have hg1 : W.drew.heap[g]? = some (.cells vs.toArray 86 (0, 0)) := hg
 obtain ⟨u0, hu0⟩ : ∃ u, W.cell? ⟨b, off, none⟩ = some u := by
  have h := hb 0 (cs[0]'(by omega)) (List.getElem?_eq_getElem (by omega))
  exact ⟨_, h⟩
 have hov : ∀ lb cb, (callFunc 142 #[.slice (some ⟨b, off, none⟩) 1 c, .slice (some ⟨g, (i + 1) * 6, none⟩) lb cb]).run Tryz.prog W = .ok (.value (.bool false)) W := fun lb cb => z07x hg (by omega) hne hu0
 have hsz : (Tryz.prog.info? 86).map (·.size) = some 6 := by kernel_rfl
 have hcp1 : ∀ ty dc sc, (Builtin.copy_ #[25, 25] ty #[.slice (some ⟨g, (i + 1) * 6, none⟩) (n - i) dc, .slice (some ⟨g, i * 6, none⟩) (n + 1 - i) sc]).run Tryz.prog W.drew = .ok (goInt (Nat.min (n + 1 - i) (n - i) : Nat)) (W.drew.setCells g ((i + 1) * 6) mv) := fun ty dc sc =>
  ze6 Tryz.underlying25 hsz hg1 (by rw [hlen]; show _ = min _ _ * 6; rw [Nat.min_def]; split <;> omega) (fun j v hj => by
   rw [z6b, cell_of_row _ g _ _ 86 (0, 0) hg1]
   have hlt := (List.getElem?_eq_some_iff.1 hj).1
   rw [hmv, List.getElem?_drop, List.getElem?_take, if_pos (by omega)] at hj
   simpa using hj) (by omega) (fun v hv => h1 v (by rw [hmv] at hv; exact List.mem_of_mem_drop hv))
 obtain ⟨W1, hW1⟩ : ∃ W1, W1 = W.drew.setCells g ((i + 1) * 6) mv := ⟨_, rfl⟩
 have hg2 : W1.heap[g]? = some (.cells (z0z vs ((i + 1) * 6) mv).toArray 86 (0, 0)) := by rw [hW1]; exact z13 _ _ _ _ hg1
 have hcp2 : ∀ ty dc, (Builtin.copy_ #[25, 25] ty #[.slice (some ⟨g, i * 6, none⟩) (n + 1 - i) dc, .slice (some ⟨b, off, none⟩) 1 c]).run Tryz.prog W1 = .ok (goInt (Nat.min 1 (n + 1 - i) : Nat)) (W1.setCells g (i * 6) cs) := fun ty dc =>
  ze6 Tryz.underlying25 hsz hg2 (by rw [hcl]; show _ = min _ _ * 6; rw [Nat.min_def]; split <;> omega) (fun j v hj => by
   rw [z6b, hW1, z056 hne]
   exact hb j v hj) (by rw [z11]; omega) h1c
 rw [← hW1] at hcp1
 have hw1 : IntKind.i64.wrap ((i : Int) + 1) = (i : Int) + 1 := by rw [IntKind.wrap_i64]; omega
 have hw2 : IntKind.i64.wrap ((n : Int) + 1) = (n : Int) + 1 := by rw [IntKind.wrap_i64]; omega
 have hz2 : ¬ ((i : Int) = (n : Int)) := by omega
 have hp1 : (i : Int) ≤ (n : Int) + 1 := by omega
 have hp0 : (0 : Int) ≤ (i : Int) + 1 := by omega
 have hb1 : ¬ (cap = i + 1) := by omega
 have hb4 : ¬ (cap = i) := by omega
 have hin : i ≤ n := by omega
 have hic : i ≤ cap := by omega
 have hW := Lib.hid hW1
 have hmv' := Lib.hid hmv
 clear hmv hlen hg hg1 hg2 hW1 hcs h1 hb h1c hcl hu0
 go_enter Tryz.func107, Tryz.ntmps107
 go_wp2_with (simp only [hov])
 go_region_law (refine zha rfl _ _ 25 25 rfl _ _ (by simp [Act.eval, Act.put]) (by simp [Act.eval, Act.put]) (hcp1 _ _ _) ?_)
 go_wp2_with (at_builtin; refine z9k rfl _ _ 25 25 rfl _ _ rfl rfl (hcp2 _ _) ?_)
 go_ret
 refine ⟨rfl, ?_⟩
 rw [hW.out, hmv'.out]
 rfl
theorem z0a9 {W : World} {base : Nat} {v : Value} {n b off c : Nat} {olds cs : List Value} (hown : W.ownsRow base 86 6 v n olds) (hbase : base ≤ W.heap.size) (hn : n ≤ 1000000) (hcl : cs.length = 6) (hb : ∀ j v, cs[j]? = some v → W.cell? ⟨b, off + j, none⟩ = some v) (h1c : ∀ v ∈ cs, v.oneCell' = true) :
  Calls Tryz.prog 107 #[v, .int .i64 n, .slice (some ⟨b, off, none⟩) 1 c] W fun r W' => ∃ v', r = .returned v' ∧ W'.ownsRow base 86 6 v' (n + 1) (olds ++ cs) ∧ W.grownBy W' v.ownBlock ∧ (v'.ownBlock = v.ownBlock ∨ v'.ownBlock = some W.heap.size) := by
 obtain ⟨ht, ie, zv, he, hz0, hsz, hbz, hzs⟩ := zl0
 have hrun : ∀ ty, ∃ v' W', (Builtin.append_ #[25, 25] ty #[v, .slice (some ⟨b, off, none⟩) 1 c]).run Tryz.prog W = .ok v' W' ∧ W'.ownsRow base 86 6 v' (n + 1) (olds ++ cs) ∧ W.grownBy W' v.ownBlock ∧ (v'.ownBlock = v.ownBlock ∨ v'.ownBlock = some W.heap.size) := fun ty => by
  obtain ⟨v', W', hr, h2, h3, _, h5⟩ := run_append_own_at (P := Tryz.prog) W base 25 ty 86 ie zv 6 64 ht he hz0 hsz hbz hzs (by decide) v n olds hown ⟨b, off, none⟩ 1 c cs (by omega) (fun j u hj => by rw [z6b]; exact hb j u hj) h1c (by unfold maxLen; omega) (by omega) hbase
  exact ⟨v', W', hr, h2, h3, h5⟩
 obtain ⟨v', W', hr, h2, h3, h4⟩ := hrun 25
 have hv : ∃ A cap, v = .slice A n cap ∧ n ≤ cap ∧ cap ≤ maxLen := by
  rcases hown.2 with ⟨rfl, h0⟩ | ⟨g, cap, cur, rfl, _, _, h1, h2, _⟩
  ·exact ⟨none, 0, by rw [h0], by omega, by unfold maxLen; omega⟩
  ·exact ⟨_, cap, rfl, h1, h2⟩
 obtain ⟨A, cap, rfl, hc1, hc2⟩ := hv
 have hc3 : cap ≤ 9223372036854775807 := hc2
 have R := Lib.hid (And.intro h2 (And.intro h3 h4))
 clear h2 h3 h4 hown hrun hb h1c hcl hbase
 go_enter Tryz.func107, Tryz.ntmps107
 go_wp2_with (at_builtin; refine Lib.wpList_append_run _ rfl _ _ _ _ rfl _ _ rfl rfl _ _ hr ?_)
 all_goals (go_ret; have R' := R.out; first | exact ⟨v', rfl, R'⟩ | (subst_vars; exact ⟨v', rfl, R'⟩) | (cases A <;> exact ⟨v', rfl, R'⟩))
theorem z07z {W : World} {g n cap i b off c : Nat} {vs cs : List Value} (hg : W.heap[g]? = some (.cells vs.toArray 86 (0, 0))) (hn : n = cap) (hm : n ≤ 1000000) (hcs : vs.length = cap * 6) (h1 : ∀ u ∈ vs.take (n * 6), u.oneCell' = true) (hi : i < n) (hcl : cs.length = 6) (hb : ∀ j v, cs[j]? = some v → W.cell? ⟨b, off + j, none⟩ = some v) (h1c : ∀ v ∈ cs, v.oneCell' = true) :
  Calls Tryz.prog 107 #[.slice (some ⟨g, 0, none⟩) n cap, .int .i64 i, .slice (some ⟨b, off, none⟩) 1 c] W fun r W' => ∃ G, ∃ row : List Value, n + 1 ≤ G ∧ G ≤ maxLen ∧ row.length = G * 6 ∧ r = .returned (.slice (some ⟨W.heap.size, 0, none⟩) (n + 1) G) ∧ (∀ u ∈ row.take (i * 6), u.oneCell' = true) ∧ row.take (i * 6) = vs.take (i * 6) ∧
   W' = (((W.alloc (.cells row.toArray 86)).drew.setCells W.heap.size (i * 6) cs).drew).setCells W.heap.size ((i + 1) * 6) ((vs.take (n * 6)).drop (i * 6)) := by
 obtain ⟨ht, ie, zv, he, hz0, hszI, hbz, hzs⟩ := zl0
 have hz1 : ¬ ((1 : Int) = 0) := by decide
 have hz2 : ¬ ((i : Int) = (n : Int)) := by omega
 have hz3 : (cap : Int) < (n : Int) + 1 := by omega
 have hsz : (Tryz.prog.info? 86).map (·.size) = some 6 := by kernel_rfl
 have hgl : g < W.heap.size := by
  rcases Nat.lt_or_ge g W.heap.size with h | h
  ·exact h
  ·rw [Array.getElem?_eq_none h] at hg; cases hg
 have hbl : b < W.heap.size := block_lt_of_cell (hb 0 _ (List.getElem?_eq_getElem (by omega)))
 have hkk : (n : Int) + 1 - (i : Int) = ((n + 1 - i : Nat) : Int) := by omega
 have hik : i + (n + 1 - i) = n + 1 := by omega
 have hg1 : W.drew.heap[g]? = some (.cells vs.toArray 86 (0, 0)) := hg
 have hold : (Builtin.firstCells ie.size i (.slice (some ⟨g, 0, none⟩) i cap)).run Tryz.prog W.drew = .ok (vs.take (i * 6)).toArray W.drew := by
  rw [hszI]
  exact run_firstCells_some W.drew 6 i ⟨g, 0, none⟩ i cap (vs.take (i * 6)) (by rw [List.length_take]; omega) (fun j v hj => by
   rw [z6b, cell_of_row _ g _ _ 86 (0, 0) hg1]
   rw [List.getElem?_take] at hj
   split at hj
   ·simpa using hj
   ·cases hj)
 have hrz : ∀ ty, (Builtin.append_ #[25, 3] ty #[.slice (some ⟨g, 0, none⟩) i cap, .int .i64 ((n : Int) + 1 - (i : Int))]).run Tryz.prog W =
   .ok (.slice (some ⟨W.heap.size, 0, none⟩) (n + 1) (grownCap W (n + 1) cap 86)) (W.drew.alloc (.cells ((vs.take (i * 6)).toArray ++ Builtin.zeroCells zv.cells (n + 1 - i) ++ Builtin.zeroCells zv.cells (grownCap W (n + 1) cap 86 - (n + 1))) 86)) := fun ty => by
  have h := Lib.run_append_grow_zeros W 25 3 ty 86 ie zv .i64 .i64 ht Tryz.underlying3 he hz0 (some ⟨g, 0, none⟩) i cap (vs.take (i * 6)) hold (n + 1 - i) (by omega) (by omega) (by omega) (by omega) (by rw [hbz]; omega) (by rw [hbz, hik]; exact growslice_fits (by omega) (by omega))
  rw [hik] at h
  rw [hkk]
  exact h
 obtain ⟨G, hG⟩ : ∃ G, G = grownCap W (n + 1) cap 86 := ⟨_, rfl⟩
 obtain ⟨row, hrow⟩ : ∃ row : List Value, row = vs.take (i * 6) ++ (Builtin.zeroCells zv.cells (n + 1 - i)).toList ++ (Builtin.zeroCells zv.cells (G - (n + 1))).toList := ⟨_, rfl⟩
 have hrowA : row.toArray = (vs.take (i * 6)).toArray ++ Builtin.zeroCells zv.cells (n + 1 - i) ++ Builtin.zeroCells zv.cells (G - (n + 1)) := by rw [hrow]; simp
 rw [← hG, ← hrowA] at hrz
 have hGn : n + 1 ≤ G := by rw [hG]; exact grownCap_ge W _ _ _
 have hGm : G ≤ maxLen := by rw [hG]; exact grownCap_le_maxLen W (n + 1) cap 86 (by unfold maxLen; omega)
 have hG63 : G ≤ 9223372036854775807 := hGm
 have hrl : row.length = G * 6 := by
  rw [hrow]
  simp only [List.length_append, List.length_take, Array.length_toList, Builtin.zeroCells, Array.size_map, Array.size_range, hzs]
  omega
 have hrt : row.take (i * 6) = vs.take (i * 6) := by
  rw [hrow, List.append_assoc, List.take_append_of_le_length (by rw [List.length_take]; omega), List.take_take, Nat.min_self]
 obtain ⟨mv, hmv⟩ : ∃ mv, mv = (vs.take (n * 6)).drop (i * 6) := ⟨_, rfl⟩
 have hlen : mv.length = (n - i) * 6 := by rw [hmv, List.length_drop, List.length_take]; omega
 have hcpA : ∀ (W' : World), W'.heap[W.heap.size]? = some (.cells row.toArray 86 (0, 0)) → (∀ k v, W.cell? ⟨b, k, none⟩ = some v → W'.cell? ⟨b, k, none⟩ = some v) → ∀ ty dc, (Builtin.copy_ #[25, 25] ty #[.slice (some ⟨W.heap.size, i * 6, none⟩) (n + 1 - i) dc, .slice (some ⟨b, off, none⟩) 1 c]).run Tryz.prog W' = .ok (goInt (Nat.min 1 (n + 1 - i) : Nat)) (W'.setCells W.heap.size (i * 6) cs) := fun W' h1' h2' ty dc =>
  ze6 ht hsz h1' (by rw [hcl]; show _ = min _ _ * 6; rw [Nat.min_def]; split <;> omega) (fun j v hj => by rw [z6b]; exact h2' _ v (hb j v hj)) (by omega) h1c
 have hcpB : ∀ (W' : World) (vs' : List Value), vs'.length = G * 6 → W'.heap[W.heap.size]? = some (.cells vs'.toArray 86 (0, 0)) → W'.heap[g]? = some (.cells vs.toArray 86 (0, 0)) → ∀ ty dc sc, (Builtin.copy_ #[25, 25] ty #[.slice (some ⟨W.heap.size, (i + 1) * 6, none⟩) (n - i) dc, .slice (some ⟨g, i * 6, none⟩) (n - i) sc]).run Tryz.prog W' = .ok (goInt (Nat.min (n - i) (n - i) : Nat)) (W'.setCells W.heap.size ((i + 1) * 6) mv) := fun W' vs' hl' h1' h2' ty dc sc =>
  ze6 ht hsz h1' (by rw [hlen]; show _ = min _ _ * 6; rw [Nat.min_def]; split <;> omega) (fun j v hj => by
   rw [z6b, cell_of_row _ g _ _ 86 (0, 0) h2']
   have hlt := (List.getElem?_eq_some_iff.1 hj).1
   rw [hmv, List.getElem?_drop, List.getElem?_take, if_pos (by omega)] at hj
   simpa using hj) (by omega) (fun v hv => h1 v (by rw [hmv] at hv; exact List.mem_of_mem_drop hv))
 have hA := hcpA ((W.alloc (.cells row.toArray 86)).drew) (heap_alloc_new W _) (fun k v h => zh9 _ h)
 have hA' := hcpA (W.drew.alloc (.cells row.toArray 86)) (heap_alloc_new W.drew _) (fun k v h => zh9 (W := W.drew) _ h)
 have hgold : (W.alloc (.cells row.toArray 86)).heap[g]? = some (.cells vs.toArray 86 (0, 0)) := by
  have : (W.alloc (.cells row.toArray 86)).heap[g]? = W.heap[g]? := by simp only [World.alloc, Array.getElem?_push, Nat.ne_of_lt hgl, if_false]
  rw [this]; exact hg
 have hB := hcpB (((W.alloc (.cells row.toArray 86)).drew.setCells W.heap.size (i * 6) cs).drew) (z0z row (i * 6) cs) (by rw [z11, hrl]) (z13 _ _ (W.alloc (.cells row.toArray 86)).drew _ (heap_alloc_new W _)) (by
  show ((W.alloc (.cells row.toArray 86)).drew.setCells W.heap.size (i * 6) cs).heap[g]? = _
  rw [z1e _ _ _ _ _ (by omega)]; exact hgold)
 have hw1 : IntKind.i64.wrap ((i : Int) + 1) = (i : Int) + 1 := by rw [IntKind.wrap_i64]; omega
 have hw2 : IntKind.i64.wrap ((n : Int) + 1) = (n : Int) + 1 := by rw [IntKind.wrap_i64]; omega
 have hp1 : (i : Int) ≤ (n : Int) + 1 := by omega
 have hp0 : (0 : Int) ≤ (i : Int) + 1 := by omega
 have hGi : ¬ (G = i) := by omega
 have hGi1 : ¬ (G = i + 1) := by omega
 have hci : ¬ (cap = i) := by omega
 have hin : i ≤ n := by omega
 have R : Hid (n + 1 ≤ G ∧ G ≤ maxLen ∧ row.length = G * 6 ∧ (∀ u ∈ row.take (i * 6), u.oneCell' = true) ∧ row.take (i * 6) = vs.take (i * 6) ∧ mv = (vs.take (n * 6)).drop (i * 6)) := Lib.hid ⟨hGn, hGm, hrl, fun u hu => h1 u (by rw [hrt] at hu; exact (List.take_sublist_take_left (by omega)).subset hu), hrt, hmv⟩
 have hic : i ≤ cap := by omega
 have hn' := Lib.hid hn
 clear hn hmv hlen hg hg1 hgold hcs h1 hb h1c hcl hcpA hcpB hrt hrl hrow hrowA hG hGm hold hkk hik
 go_enter Tryz.func107, Tryz.ntmps107
 go_wp2_with (first
  | (at_builtin; refine Lib.wpList_append_run _ rfl _ _ _ _ rfl _ _ rfl rfl _ _ (hrz _) ?_)
  | (at_builtin; refine z9k rfl _ _ 25 25 rfl _ _ rfl rfl (hA' _ _) ?_)
  | (at_builtin; refine z9k rfl _ _ 25 25 rfl _ _ rfl rfl (hA _ _) ?_))
 go_region_law (refine zha rfl _ _ 25 25 rfl _ _ (by simp [Act.eval, Act.put]) (by simp [Act.eval, Act.put]) (hB _ _ _) ?_)
 go_wp2
 go_ret
 obtain ⟨r1, r2, r3, r4, r5, r6⟩ := R.out
 exact ⟨G, row, r1, r2, r3, rfl, r4, r5, by rw [r6]⟩
noncomputable def z68 : zd := spD (fun x : List Coin × Int × List Coin => 0 ≤ x.2.1 ∧ x.2.1 ≤ x.1.length ∧ x.1.length ≤ 1000000 ∧ x.2.2.length = 1) fun x => x.1.take x.2.1.toNat ++ x.2.2 ++ x.1.drop x.2.1.toNat
theorem zns : Meets Tryz.prog z68 107 ⟨[.mine 86 6, .one, .one], [(false, [.fresh 86 6])], false⟩ :=
 z058 rfl (by decide) (z22 (fn := Tryz.f107) (by kernel_rfl) (by kernel_rfl) (by kernel_rfl)) (fun W g n cap i b off c vs cs h1 h2 h3 h4 h5 h6 h7 h8 h9 h10 => z07y h1 h2 h3 h4 h5 h6 h7 h8 h9 h10) (fun W base v n b off c olds cs h1 h2 h3 h4 h5 h6 => z0a9 h1 h2 h3 h4 h5 h6) (fun W g n cap i b off c vs cs h1 h2 h3 h4 h5 h6 h7 h8 h9 => z07z h1 h2 h3 h4 h5 h6 h7 h8 h9)
end
section
open Go.RowKit
set_option maxRecDepth 100000
set_option maxHeartbeats 4000000
theorem zej (l : List Coin) (i j : Int) (h : 0 ≤ i ∧ i ≤ j ∧ j ≤ l.length) : z67 [.l 6 (l.map zg), I i, I j] = some [.l 6 ((l.take i.toNat ++ l.drop j.toNat).map zg)] := zm (p := fun x : List Coin × Int × Int => 0 ≤ x.2.1 ∧ x.2.1 ≤ x.2.2 ∧ x.2.2 ≤ x.1.length) (f := fun x : List Coin × Int × Int => x.1.take x.2.1.toNat ++ x.1.drop x.2.2.toNat) (l, i, j) h
theorem z9l (l : List Coin) (i : Int) (c : Coin) (h : 0 ≤ i ∧ i ≤ l.length ∧ l.length ≤ 1000000) : z68 [.l 6 (l.map zg), I i, .l 6 ([c].map zg)] = some [.l 6 ((l.take i.toNat ++ [c] ++ l.drop i.toNat).map zg)] := zm (p := fun x : List Coin × Int × List Coin => 0 ≤ x.2.1 ∧ x.2.1 ≤ x.1.length ∧ x.1.length ≤ 1000000 ∧ x.2.2.length = 1) (f := fun x : List Coin × Int × List Coin => x.1.take x.2.1.toNat ++ x.2.2 ++ x.1.drop x.2.1.toNat) (l, i, [c]) ⟨h.1, h.2.1, h.2.2, rfl⟩
noncomputable def z87 : zd := spD (fun _ : List Coin × Tx × Int × Int => True) fun x => z04 x.1 x.2.1 x.2.2.1 x.2.2.2
theorem zek (l : List Coin) (t : Tx) (nm h : Int) : z87 [.l 6 (l.map zg), I t.height, .l 3 (t.ins.map eIn), .l 2 (t.outs.map z27), I nm, I h] = some [.l 6 ((z04 l t nm h).1.map zg), .l 6 ((z04 l t nm h).2.1.map zg), I (z04 l t nm h).2.2] := zm (f := fun x : List Coin × Tx × Int × Int => z04 x.1 x.2.1 x.2.2.1 x.2.2.2) (l, t, nm, h) trivial
theorem z02a {a b : Dt} {n : Int} {pk : List PK} {l : Bool} {g : Bool} : z4n ⟨pk, [(false, [.pure]), (g, [.pure]), (false, [.scal])], l⟩ [a, b, I n] := by
 intro i d hi hd
 match i, hi, hd with
 | 0, hi, _ => simp [zk] at hi
 | 1, hi, _ => simp [zk] at hi
 | 2, _, hd => simp only [List.getElem?_cons_succ, List.getElem?_cons_zero, Option.some.injEq] at hd; subst hd; rfl
 | i + 3, hi, _ => simp [zk] at hi
theorem z059 {a : Dt} {n : Int} {pk : List PK} {l : Bool} {g : Bool} : z4n ⟨pk, [(g, [.pure]), (false, [.scal])], l⟩ [a, I n] := by
 intro i d hi hd
 match i, hi, hd with
 | 0, hi, _ => simp [zk] at hi
 | 1, _, hd => simp only [List.getElem?_cons_succ, List.getElem?_cons_zero, Option.some.injEq] at hd; subst hd; rfl
 | i + 2, hi, _ => simp [zk] at hi
attribute [local irreducible] z0o spD z1j zu zl z3g z23 z3w zf
theorem zel (t : Tx) : z2m [I t.height, .l 3 (t.ins.map eIn), .l 2 (t.outs.map z27)] = some [I (zl t)] := zm (f := fun t : Tx => zl t) t trivial
def zyo : T :=
 .lets [.bin .add (.v 28) (.c (.i .i64 1))] [] (.lets [.call 14 [.v 22, .v 28, .v 44] 0] [] (.lets [.bin .add (.v 23) (.c (.i .i64 1))] [] (.again 0 [.v 19, .v 20, .v 43, .v 45, .v
 46])))
def zyp : T :=
 .ite (.v 41) (.ret [.c (.nil 6), .c (.nil 6), .c (.i .i64 8)]) (.lets [.mk 6 [[.v 31, .v 32, .v 33, .v 34, .v 35, .v 36]]] [] (.lets [.app 6 (.v 21) (.v 42)] [] zyo))
def zyq : T :=
 .ite (.v 38) (.ret [.c (.nil 6), .c (.nil 6), .c (.i .i64 10)]) (.lets [.call 16 [.v 34, .v 27, .v 5] 0, .call 16 [.v 34, .v 27, .v 5] 1] [] (.lets [.not (.v 39)] [] zyp))
def zyr : T :=
 .lets [.bin .add (.v 28) (.c (.i .i64 1))] [] (.lets [.call 14 [.v 22, .v 28, .v 42] 0] [] (.lets [.bin .add (.v 23) (.c (.i .i64 1))] [] (.again 0 [.v 19, .v 20, .v 41, .v 43, .v
 44])))
def zys : T :=
 .ite (.v 39) (.ret [.c (.nil 6), .c (.nil 6), .c (.i .i64 8)]) (.lets [.mk 6 [[.v 31, .v 32, .v 33, .v 34, .v 35, .v 36]]] [] (.lets [.app 6 (.v 21) (.v 40)] [] zyr))
def zyt : T :=
 .ite (.v 36) (.lets [.bin .add (.v 35) (.c (.i .i64 2))] [] (.lets [.bin .lss (.v 5) (.v 37)] [] zyq)) (.lets [.call 16 [.v 34, .v 27, .v 5] 0, .call 16 [.v 34, .v 27, .v 5]
 1] [] (.lets [.not (.v 37)] [] zys))
def zyu : T :=
 .lets [.idx (.v 22) (.v 28) 0, .idx (.v 22) (.v 28) 1, .idx (.v 22) (.v 28) 2, .idx (.v 22) (.v 28) 3, .idx (.v 22) (.v 28) 4, .idx (.v 22) (.v 28) 5] [] zyt
def zyv : T :=
 .lets [.call 6 [.v 22, .v 25, .v 26] 0, .call 6 [.v 22, .v 25, .v 26] 1] [] (.lets [.not (.v 29)] [] (.ite (.v 30) (.ret [.c (.nil 6), .c (.nil 6), .c (.i .i64 7)]) (.lets [] [.inr
 6 (.v 22) (.v 28)] zyu)))
def zyw : T :=
 .lets [.mk 6 [[.v 4, .v 29, .v 31, .v 35, .v 5, .v 15]]] [] (.lets [.call 15 [.v 28, .v 33, .v 36] 0] [] (.lets [.bin .add (.v 29) (.c (.i .i64 1))] [] (.again 1 [.v 26, .v 27, .v
 37, .v 38])))
def zyx : T :=
 .lets [.call 6 [.v 28, .v 4, .v 29] 0, .call 6 [.v 28, .v 4, .v 29] 1] [] (.ite (.v 34) (.ret [.c (.nil 6), .c (.nil 6), .c (.i .i64 6)]) (.lets [.call 10 [.v 32] 0] []
 zyw))
def zv5 : T :=
 .lets [.call 8 [.v 28] 0] [] (.lets [.bin .neq (.v 31) (.c (.i .i64 0))] [] (.ite (.v 32) (.ret [.c (.nil 6), .c (.nil 6), .v 31]) (.ret [.v 28, .v 21, .c (.i .i64 0)])))
def zv6 : T :=
 .lets [.bin .lss (.v 29) (.v 25)] [] (.ite (.v 30) (.lets [] [.inr 2 (.v 3) (.v 29)] (.lets [.idx (.v 3) (.v 29) 0, .idx (.v 3) (.v 29) 1] [] zyx)) zv5)
def zv7 : T :=
 .ite (.v 24) (.lets [] [.inr 3 (.v 2) (.v 23)] (.lets [.idx (.v 2) (.v 23) 0, .idx (.v 2) (.v 23) 1, .idx (.v 2) (.v 23) 2] [] zyv)) (.lets [.len (.v 3)] [] (.loop [.c (.nil
 6), .c (.i .i64 0), .v 22, .c (.i .i64 0)] zv6))
def zv8 : T :=
 .lets [.call 11 [.v 0] 0] [] (.lets [.len (.v 2)] [] (.loop [.c (.nil 6), .c (.i .i64 0), .c (.nil 6), .v 17, .c (.i .i64 0)] (.lets [.bin .lss (.v 23) (.v 18)] [] zv7)))
def zv9 : T :=
 .lets [.bin .add (.v 27) (.c (.i .i64 1))] [] (.lets [.call 14 [.v 21, .v 27, .v 43] 0] [] (.lets [.bin .add (.v 22) (.c (.i .i64 1))] [] (.again 0 [.v 18, .v 19, .v 42, .v 44, .v
 45])))
def zva : T :=
 .ite (.v 40) (.ret [.c (.nil 6), .c (.nil 6), .c (.i .i64 8)]) (.lets [.mk 6 [[.v 30, .v 31, .v 32, .v 33, .v 34, .v 35]]] [] (.lets [.app 6 (.v 20) (.v 41)] [] zv9))
def zvb : T :=
 .ite (.v 37) (.ret [.c (.nil 6), .c (.nil 6), .c (.i .i64 10)]) (.lets [.call 16 [.v 33, .v 26, .v 5] 0, .call 16 [.v 33, .v 26, .v 5] 1] [] (.lets [.not (.v 38)] [] zva))
def zvc : T :=
 .lets [.bin .add (.v 27) (.c (.i .i64 1))] [] (.lets [.call 14 [.v 21, .v 27, .v 41] 0] [] (.lets [.bin .add (.v 22) (.c (.i .i64 1))] [] (.again 0 [.v 18, .v 19, .v 40, .v 42, .v
 43])))
def zvd : T :=
 .ite (.v 38) (.ret [.c (.nil 6), .c (.nil 6), .c (.i .i64 8)]) (.lets [.mk 6 [[.v 30, .v 31, .v 32, .v 33, .v 34, .v 35]]] [] (.lets [.app 6 (.v 20) (.v 39)] [] zvc))
def zve : T :=
 .ite (.v 35) (.lets [.bin .add (.v 34) (.c (.i .i64 2))] [] (.lets [.bin .lss (.v 5) (.v 36)] [] zvb)) (.lets [.call 16 [.v 33, .v 26, .v 5] 0, .call 16 [.v 33, .v 26, .v
 5] 1] [] (.lets [.not (.v 36)] [] zvd))
def zvf : T :=
 .lets [.idx (.v 21) (.v 27) 0, .idx (.v 21) (.v 27) 1, .idx (.v 21) (.v 27) 2, .idx (.v 21) (.v 27) 3, .idx (.v 21) (.v 27) 4, .idx (.v 21) (.v 27) 5] [] zve
def zvg : T :=
 .lets [.call 6 [.v 21, .v 24, .v 25] 0, .call 6 [.v 21, .v 24, .v 25] 1] [] (.lets [.not (.v 28)] [] (.ite (.v 29) (.ret [.c (.nil 6), .c (.nil 6), .c (.i .i64 7)]) (.lets [] [.inr
 6 (.v 21) (.v 27)] zvf)))
def zvh : T :=
 .lets [.mk 6 [[.v 4, .v 30, .v 32, .v 36, .v 5, .v 15]]] [] (.lets [.call 15 [.v 29, .v 34, .v 37] 0] [] (.lets [.bin .add (.v 30) (.c (.i .i64 1))] [] (.again 1 [.v 27, .v 28, .v
 38, .v 39])))
def zvi : T :=
 .lets [.call 6 [.v 29, .v 4, .v 30] 0, .call 6 [.v 29, .v 4, .v 30] 1] [] (.ite (.v 35) (.ret [.c (.nil 6), .c (.nil 6), .c (.i .i64 6)]) (.lets [.call 10 [.v 33] 0] []
 zvh))
def zvj : T :=
 .lets [.call 8 [.v 29] 0] [] (.lets [.bin .neq (.v 32) (.c (.i .i64 0))] [] (.ite (.v 33) (.ret [.c (.nil 6), .c (.nil 6), .v 32]) (.ret [.v 29, .v 20, .c (.i .i64 0)])))
def zvk : T :=
 .lets [.bin .lss (.v 30) (.v 26)] [] (.ite (.v 31) (.lets [] [.inr 2 (.v 3) (.v 30)] (.lets [.idx (.v 3) (.v 30) 0, .idx (.v 3) (.v 30) 1] [] zvi)) zvj)
def zvl : T :=
 .ite (.v 25) (.ret [.c (.nil 6), .c (.nil 6), .c (.i .i64 9)]) (.lets [.len (.v 3)] [] (.loop [.c (.nil 6), .c (.i .i64 0), .v 21, .c (.i .i64 0)] zvk))
def zvm : T :=
 .ite (.v 23) (.lets [] [.inr 3 (.v 2) (.v 22)] (.lets [.idx (.v 2) (.v 22) 0, .idx (.v 2) (.v 22) 1, .idx (.v 2) (.v 22) 2] [] zvg)) (.lets [.call 13 [.v 1, .v 2, .v 3, .v
 20] 0] [] (.lets [.bin .lss (.v 24) (.c (.i .i64 0))] [] zvl))
def zvn : T :=
 .lets [.call 11 [.v 0] 0] [] (.lets [.len (.v 2)] [] (.loop [.c (.nil 6), .c (.i .i64 0), .c (.nil 6), .v 16, .c (.i .i64 0)] (.lets [.bin .lss (.v 22) (.v 17)] [] zvm)))
def zvo : T :=
 .lets [.bin .eql (.v 14) (.c (.i .i64 0))] [] (.ite (.v 15) (.lets [.bin .neq (.v 1) (.v 5)] [] (.ite (.v 16) (.ret [.c (.nil 6), .c (.nil 6), .c (.i .i64 4)]) zv8))
 zvn)
def zvp : T :=
 .ite (.v 12) (.ret [.c (.nil 6), .c (.nil 6), .c (.i .i64 3)]) (.lets [.bin .gtr (.v 5) (.c (.i .i64 1000))] [] (.ite (.v 13) (.ret [.c (.nil 6), .c (.nil 6), .c (.i .i64 3)])
 (.lets [.len (.v 2)] [] zvo)))
def zvq : T :=
 .lets [.bin .gtr (.v 4) (.c (.i .i64 120))] [] (.ite (.v 11) (.ret [.c (.nil 6), .c (.nil 6), .c (.i .i64 3)]) (.lets [.bin .lss (.v 5) (.c (.i .i64 1))] [] zvp))
def zvr : T :=
 .ite (.v 9) (.ret [.c (.nil 6), .c (.nil 6), .v 8]) (.lets [.bin .lss (.v 4) (.c (.i .i64 1))] [] (.ite (.v 10) (.ret [.c (.nil 6), .c (.nil 6), .c (.i .i64 3)]) zvq))
def zvs : T :=
 .lets [.bin .neq (.v 6) (.c (.i .i64 0))] [] (.ite (.v 7) (.ret [.c (.nil 6), .c (.nil 6), .v 6]) (.lets [.call 17 [.v 1, .v 2, .v 3] 0] [] (.lets [.bin .neq (.v 8) (.c (.i .i64
 0))] [] zvr)))
def zfz : T :=
 .lets [.call 8 [.v 0] 0] [] zvs
theorem z05a : Meets Tryz.prog z87 50 ⟨[.one, .agg 3, .one, .one], [(false, [.pure]), (true, [.pure]), (false, [.scal])], false⟩ := by
 refine zbg (sp := (z0i [(6, z5z), (8, z1f), (10, za7), (11, z5q), (13, z72), (14, z67), (15, z68), (16, z82), (17, z2m)])) (sigs := z0q) (cut := []) (hints := [⟨19, [.r 8 86 6, .t 10, .r 0 86 6, .t 111, .z 84, .z 83, .z 78]⟩]) (fns := [zbu 105 Tryz.f105 [⟨2, [.r 6 86 6, .t 8, .r 7 86 6, .r 0 86 6, .t 19]⟩] [], zbu 104 Tryz.f104 [] []]) (dep := 2) (pool := 240) (fn := Tryz.f50) (t := zfz) (by kernel_rfl) (by kernel_rfl) (by kernel_rfl) ?_ ?_ ?_
 ·exact (z37 (fn := Tryz.f105) (by kernel_rfl) (by kernel_rfl) (by kernel_rfl) (by kernel_rfl) (by kernel_rfl) (z37 (fn := Tryz.f104) (by kernel_rfl) (by kernel_rfl) (by kernel_rfl) (by kernel_rfl) (by kernel_rfl) zde))
 ·exact (z07 (L := [(6, z5z), (8, z1f), (10, za7), (11, z5q), (13, z72), (14, z67), (15, z68), (16, z82), (17, z2m)]) ⟨za rfl zne, za rfl z92, za rfl z04a, za rfl zv2, za rfl z00c, za rfl znr, za rfl zns, za rfl zxu, za rfl zfk, trivial⟩)
 ·rintro ds rs - h
  obtain ⟨⟨l, t, nm, ht⟩, -, rfl, rfl⟩ := zq h
  clear h
  refine ⟨⟨t.ins.length + t.outs.length + 1, ?_⟩, z02a⟩
  show den _ _ zfz [.l 6 (l.map zg), I t.height, .l 3 (t.ins.map eIn), .l 2 (t.outs.map z27), I nm, I ht] [] = ret (z04 l t nm ht)
  unfold zfz z04
  repeat' (first | refine dq1 ?_ | refine dqc ?_ | refine dqm ?_ | refine dqK rfl (z2e _) ?_ | refine dqK rfl (zel _) ?_ | exact z4 rfl rfl | ((first | refine tR ?_ ?_ | refine tB ?_ ?_ | refine tC ?_ ?_ | refine tN ?_ ?_ | refine tF ?_ ?_ | refine tG ?_ ?_ | refine tP ?_ ?_ | refine tQ ?_ ?_ | refine tA ?_ ?_ | refine tO ?_ ?_ | refine tU ?_ ?_ | refine tV ?_ ?_) <;> intro h) | refine dqT ?_ | refine dqF ?_ | refine z6 rfl ?_ | refine z5 rfl ?_ | refine z8 ?_ | refine z9 ?_)
  all_goals
   have ok : CoinsOK l := (z0j l).1 (Decidable.not_not.1 (by assumption))
   have okt : TxOK t := z2j (Decidable.not_not.1 (by assumption))
   have hl := ok.len
   have hti := okt.ins
   have hto := okt.outs
   repeat' (first | refine dq1 ?_ | refine dqc ?_ | refine dqm ?_ | refine dqK rfl (zb0 _ ok.short) ?_ | exact z4 rfl rfl | ((first | refine tR ?_ ?_ | refine tB ?_ ?_ | refine tC ?_ ?_ | refine tN ?_ ?_ | refine tF ?_ ?_ | refine tG ?_ ?_ | refine tP ?_ ?_ | refine tQ ?_ ?_ | refine tA ?_ ?_ | refine tO ?_ ?_ | refine tU ?_ ?_ | refine tV ?_ ?_) <;> intro h) | refine dqT ?_ | refine dqF ?_ | refine z6 rfl ?_ | refine z5 rfl ?_ | refine z8 ?_ | refine z9 ?_)
  ·(refine z09 (fun (st : List Coin × List Coin) k => [.l 6 (([] : List Coin).map zg), I 0, .l 6 (st.2.map zg), .l 6 (st.1.map zg), I k]) (fun (st : List Coin × List Coin) _ (xs : List In) => z2w ht z3l (fun r s => z33 nm ht (decide ((t.ins.length : Int) = 0)) z3l (z9j s) r 0 t.outs) st.1 st.2 xs) (fun st k => SpI l st k) (l, []) t.ins ?_ ?_ ?_ ?_ ?_; rfl; exact ⟨ok.sorted, Nat.le_refl _, ok.good, rfl, fun c hc => by cases hc⟩; omega)
   ·rintro ⟨r, s⟩ k x xs hx hd hk hI again hag
    rename_i h0 _
    omega
   ·rintro ⟨r, s⟩ hI again
    rw [z2w]
    repeat' (first | refine dq1 ?_ | refine dqc ?_ | refine dqm ?_ | exact z4 rfl rfl | ((first | refine tR ?_ ?_ | refine tB ?_ ?_ | refine tC ?_ ?_ | refine tN ?_ ?_ | refine tF ?_ ?_ | refine tG ?_ ?_ | refine tP ?_ ?_ | refine tQ ?_ ?_ | refine tA ?_ ?_ | refine tO ?_ ?_ | refine tU ?_ ?_ | refine tV ?_ ?_) <;> intro h) | refine dqT ?_ | refine dqF ?_ | refine z6 rfl ?_ | refine z5 rfl ?_ | refine z8 ?_ | refine z9 ?_)
    (refine z09 (fun (r : List Coin) k => [.l 6 (([] : List Coin).map zg), I 0, .l 6 (r.map zg), I k]) (fun (r : List Coin) k (os : List Out) => z33 nm ht (decide ((t.ins.length : Int) = 0)) z3l (z9j s) r k os) (fun r k => z00 r ∧ r.length ≤ l.length + k) r t.outs ?_ ?_ ?_ ?_ ?_; rfl; exact ⟨hI.sorted, hI.len⟩; omega)
    ·rintro r k o os hx hd hk ⟨hs, hrl⟩ again' hag
     rw [z33]
     have hol := z7z (okt.good o (List.mem_of_getElem? hx)).2.2
     have hpl := zdh r ⟨nm, k⟩
     have e1 : ((zh r ⟨nm, k⟩ : Int)).toNat = zh r ⟨nm, k⟩ := by omega
     repeat' (first | refine dq1 ?_ | refine dqc ?_ | refine dqm ?_ | refine dqK rfl (z4p r ⟨nm, k⟩ hs (by omega)) ?_ | refine dqK rfl (zdn _ (by omega)) ?_ | exact z4 rfl rfl | ((first | refine tR ?_ ?_ | refine tB ?_ ?_ | refine tC ?_ ?_ | refine tN ?_ ?_ | refine tF ?_ ?_ | refine tG ?_ ?_ | refine tP ?_ ?_ | refine tQ ?_ ?_ | refine tA ?_ ?_ | refine tO ?_ ?_ | refine tU ?_ ?_ | refine tV ?_ ?_) <;> intro h) | refine dqT ?_ | refine dqF ?_ | refine z6 rfl ?_ | refine z5 rfl ?_ | refine z8 ?_ | refine z9 ?_)
     have hno := h
     refine z7 (z29 (r := [(⟨⟨nm, k⟩, o, ht, decide ((t.ins.length : Int) = 0)⟩ : Coin)].map zg) rfl rfl (by simp)) ?_
     refine z7 (z28 rfl (z9l _ _ _ ⟨by omega, by omega, by omega⟩) rfl) ?_
     refine z7 (z7c rfl rfl (by omega)) ?_
     rw [e1]
     exact ze rfl rfl (hag _ ⟨z66 hs (c := ⟨⟨nm, k⟩, o, ht, decide ((t.ins.length : Int) = 0)⟩) hno, by simp only [List.length_append, List.length_take, List.length_drop, List.length_singleton]; omega⟩)
    ·rintro r hr again'
     rw [z33]
     unfold z9j
     repeat' (first | refine dq1 ?_ | refine dqc ?_ | refine dqm ?_ | refine dqK rfl (z2e _) ?_ | exact z4 rfl rfl | ((first | refine tR ?_ ?_ | refine tB ?_ ?_ | refine tC ?_ ?_ | refine tN ?_ ?_ | refine tF ?_ ?_ | refine tG ?_ ?_ | refine tP ?_ ?_ | refine tQ ?_ ?_ | refine tA ?_ ?_ | refine tO ?_ ?_ | refine tU ?_ ?_ | refine tV ?_ ?_) <;> intro h) | refine dqT ?_ | refine dqF ?_ | refine z6 rfl ?_ | refine z5 rfl ?_ | refine z8 ?_ | refine z9 ?_)
  ·(refine z09 (fun (st : List Coin × List Coin) k => [.l 6 (([] : List Coin).map zg), I 0, .l 6 (st.2.map zg), .l 6 (st.1.map zg), I k]) (fun (st : List Coin × List Coin) _ (xs : List In) => z2w ht z3l (fun r s => if z23 t s < 0 then z3l 9 else z33 nm ht (decide ((t.ins.length : Int) = 0)) z3l (z9j s) r 0 t.outs) st.1 st.2 xs) (fun st k => SpI l st k) (l, []) t.ins ?_ ?_ ?_ ?_ ?_; rfl; exact ⟨ok.sorted, Nat.le_refl _, ok.good, rfl, fun c hc => by cases hc⟩; omega)
   ·rintro ⟨r, s⟩ k x xs hx hd hk hI again hag
    rw [z2w]
    simp only
    have hs := hI.sorted
    have hrl := hI.len
    simp only at hs hrl
    repeat' (first | refine dq1 ?_ | refine dqc ?_ | refine dqm ?_ | refine dqK rfl (z4p _ _ hs (by omega)) ?_ | exact z4 rfl rfl | ((first | refine tR ?_ ?_ | refine tB ?_ ?_ | refine tC ?_ ?_ | refine tN ?_ ?_ | refine tF ?_ ?_ | refine tG ?_ ?_ | refine tP ?_ ?_ | refine tQ ?_ ?_ | refine tA ?_ ?_ | refine tO ?_ ?_ | refine tU ?_ ?_ | refine tV ?_ ?_) <;> intro h) | refine dqT ?_ | refine dqF ?_ | refine z6 rfl ?_ | refine z5 rfl ?_ | refine z8 ?_ | refine z9 ?_)
    obtain ⟨hlt, hp⟩ := (zdi hs x.p).1 h
    have hc : r[zh r x.p]? = some r[zh r x.p] := List.getElem?_eq_getElem hlt
    rw [hc]
    generalize r[zh r x.p] = c at *
    have hcb := z35 (hI.good c (List.mem_of_getElem? hc))
    have e1 : ((zh r x.p : Int)).toNat = zh r x.p := by omega
    have e2 : ((zh r x.p : Int) + 1).toNat = zh r x.p + 1 := by omega
    simp only [Option.getD_some]
    have hxo := hx
    have hx := hc
    repeat' (first | refine dq1 ?_ | refine dqc ?_ | refine dqm ?_ | refine dqK rfl (zj5 _ _ _) ?_ | exact z4 rfl rfl | ((first | refine tR ?_ ?_ | refine tB ?_ ?_ | refine tC ?_ ?_ | refine tN ?_ ?_ | refine tF ?_ ?_ | refine tG ?_ ?_ | refine tP ?_ ?_ | refine tQ ?_ ?_ | refine tA ?_ ?_ | refine tO ?_ ?_ | refine tU ?_ ?_ | refine tV ?_ ?_) <;> intro h) | refine dqT ?_ | refine dqF ?_ | refine z6 rfl ?_ | refine z5 rfl ?_ | refine z8 ?_ | refine z9 ?_)
    all_goals (refine z7 (z29 (r := [c].map zg) rfl rfl (by simp)) ?_; refine z7 (zr3 (l := s) (l' := [c]) rfl rfl (by have := hI.cnt; simp only at this ⊢; simp only [List.length_singleton]; omega)) ?_; refine z7 (z7c rfl rfl (by omega)) ?_; refine z7 (z28 rfl (zej _ _ _ ⟨by omega, by omega, by omega⟩) rfl) ?_; refine z7 (z7c rfl rfl (by omega)) ?_; rw [e1, e2]; exact ze rfl rfl (hag (r.take (zh r x.p) ++ r.drop (zh r x.p + 1), s ++ [c]) (hI.cut hc)))
   ·rintro ⟨r, s⟩ hI again
    rw [z2w]
    repeat' (first | refine dq1 ?_ | refine dqc ?_ | refine dqm ?_ | refine dqK rfl (zc5 t s (hI.fee okt)) ?_ | exact z4 rfl rfl | ((first | refine tR ?_ ?_ | refine tB ?_ ?_ | refine tC ?_ ?_ | refine tN ?_ ?_ | refine tF ?_ ?_ | refine tG ?_ ?_ | refine tP ?_ ?_ | refine tQ ?_ ?_ | refine tA ?_ ?_ | refine tO ?_ ?_ | refine tU ?_ ?_ | refine tV ?_ ?_) <;> intro h) | refine dqT ?_ | refine dqF ?_ | refine z6 rfl ?_ | refine z5 rfl ?_ | refine z8 ?_ | refine z9 ?_)
    (refine z09 (fun (r : List Coin) k => [.l 6 (([] : List Coin).map zg), I 0, .l 6 (r.map zg), I k]) (fun (r : List Coin) k (os : List Out) => z33 nm ht (decide ((t.ins.length : Int) = 0)) z3l (z9j s) r k os) (fun r k => z00 r ∧ r.length ≤ l.length + k) r t.outs ?_ ?_ ?_ ?_ ?_; rfl; exact ⟨hI.sorted, hI.len⟩; omega)
    ·rintro r k o os hx hd hk ⟨hs, hrl⟩ again' hag
     rw [z33]
     have hol := z7z (okt.good o (List.mem_of_getElem? hx)).2.2
     have hpl := zdh r ⟨nm, k⟩
     have e1 : ((zh r ⟨nm, k⟩ : Int)).toNat = zh r ⟨nm, k⟩ := by omega
     repeat' (first | refine dq1 ?_ | refine dqc ?_ | refine dqm ?_ | refine dqK rfl (z4p r ⟨nm, k⟩ hs (by omega)) ?_ | refine dqK rfl (zdn _ (by omega)) ?_ | exact z4 rfl rfl | ((first | refine tR ?_ ?_ | refine tB ?_ ?_ | refine tC ?_ ?_ | refine tN ?_ ?_ | refine tF ?_ ?_ | refine tG ?_ ?_ | refine tP ?_ ?_ | refine tQ ?_ ?_ | refine tA ?_ ?_ | refine tO ?_ ?_ | refine tU ?_ ?_ | refine tV ?_ ?_) <;> intro h) | refine dqT ?_ | refine dqF ?_ | refine z6 rfl ?_ | refine z5 rfl ?_ | refine z8 ?_ | refine z9 ?_)
     have hno := h
     refine z7 (z29 (r := [(⟨⟨nm, k⟩, o, ht, decide ((t.ins.length : Int) = 0)⟩ : Coin)].map zg) rfl rfl (by simp)) ?_
     refine z7 (z28 rfl (z9l _ _ _ ⟨by omega, by omega, by omega⟩) rfl) ?_
     refine z7 (z7c rfl rfl (by omega)) ?_
     rw [e1]
     exact ze rfl rfl (hag _ ⟨z66 hs (c := ⟨⟨nm, k⟩, o, ht, decide ((t.ins.length : Int) = 0)⟩) hno, by simp only [List.length_append, List.length_take, List.length_drop, List.length_singleton]; omega⟩)
    ·rintro r hr again'
     rw [z33]
     unfold z9j
     repeat' (first | refine dq1 ?_ | refine dqc ?_ | refine dqm ?_ | refine dqK rfl (z2e _) ?_ | exact z4 rfl rfl | ((first | refine tR ?_ ?_ | refine tB ?_ ?_ | refine tC ?_ ?_ | refine tN ?_ ?_ | refine tF ?_ ?_ | refine tG ?_ ?_ | refine tP ?_ ?_ | refine tQ ?_ ?_ | refine tA ?_ ?_ | refine tO ?_ ?_ | refine tU ?_ ?_ | refine tV ?_ ?_) <;> intro h) | refine dqT ?_ | refine dqF ?_ | refine z6 rfl ?_ | refine z5 rfl ?_ | refine z8 ?_ | refine z9 ?_)
end
section
open Go.RowKit
set_option maxRecDepth 100000
set_option maxHeartbeats 4000000
theorem zhb (l m : List Op) : z71 [.l 2 (l.map eOp), .l 2 (m.map eOp)] = some [.b (decide (l = m))] := zm (f := fun x : List Op × List Op => decide (x.1 = x.2)) (l, m) trivial
theorem z00d : Meets Tryz.prog z71 76 ⟨[.one, .one], [(false, [.scal])], true⟩ :=
 zbv (e := fun x : { x : List Op × List Op // True } => Enc.e x.1) (d := fun x => .b (decide (x.1.1 = x.1.2))) rfl (z22 (fn := Tryz.f76) (by kernel_rfl) (by kernel_rfl) (by kernel_rfl)) (fun _ => rfl) fun x W F us hF h => by
  obtain ⟨v, us, rfl, h1, h⟩ := z0h h
  obtain ⟨v2, us, rfl, h2, h⟩ := z0h h
  obtain rfl := z1m h
  obtain ⟨A, n, c, rfl, k1⟩ := z5w z90 h1
  obtain ⟨A2, n2, c2, rfl, k2⟩ := z5w z90 h2
  refine (z069 x.1.1 x.1.2 A A2 n c n2 c2 W F F k1 k2).mono ?_
  rintro r W' ⟨rfl, m, rfl⟩
  exact ⟨_, rfl, z8k (Below.refl _ _) m, .b _⟩
attribute [local irreducible] z0o spD z1j
theorem ok_l {α : Type} {sz : Nat} {l : List α} {f : α → List Dt} (h : Dt.ok (.l sz (l.map f))) : l.length ≤ 9223372036854775807 := by
 cases h with
 | l _ _ h1 _ _ => simpa using h1
theorem z0cd (x y : Out) : (decide (x.coin = y.coin) && decide (x.lock = y.lock)) = decide (x = y) := by
 cases x; cases y
 simp only [Out.mk.injEq, Bool.decide_and]
noncomputable def z2a : zd := spD (fun _ : Out × Out => True) fun x => decide (x.1 = x.2)
theorem z88 (x y : Out) : z2a [I x.coin, .l 2 (x.lock.map eOp), I y.coin, .l 2 (y.lock.map eOp)] = some [.b (decide (x = y))] := zm (f := fun x : Out × Out => decide (x.1 = x.2)) (x, y) trivial
def zc7 : T :=
 .lets [.bin .eql (.v 0) (.v 2)] [] (.ite (.v 4) (.lets [.call 20 [.v 1, .v 3] 0] [] (.ret [.v 5])) (.ret [.c (.b false)]))
def zyy : T :=
 .ite (.v 13) (.lets [.bin .eql (.v 4) (.v 10)] [] (.ite (.v 14) (.lets [.beq false (.v 5) (.v 11)] [] (.ret [.v 15])) (.ret [.c (.b false)]))) (.ret [.c (.b false)])
def zg0 : T :=
 .lets [.eqs false [(.v 0, .v 6), (.v 1, .v 7)]] [] (.ite (.v 12) (.lets [.call 21 [.v 2, .v 3, .v 8, .v 9] 0] [] zyy) (.ret [.c (.b false)]))
def zyz : T :=
 .lets [.call 26 [.v 9, .v 10, .v 11, .v 12, .v 13, .v 14, .v 15, .v 16, .v 17, .v 18, .v 19, .v 20] 0] [] (.lets [.not (.v 21)] [] (.ite (.v 22) (.ret [.c (.b false)]) (.lets [.bin
 .add (.v 7) (.c (.i .i64 1))] [] (.again 0 [.v 6, .v 23]))))
def zz0 : T :=
 .lets [] [.inr 6 (.v 1) (.v 7)] (.lets [.idx (.v 1) (.v 7) 0, .idx (.v 1) (.v 7) 1, .idx (.v 1) (.v 7) 2, .idx (.v 1) (.v 7) 3, .idx (.v 1) (.v 7) 4, .idx (.v 1) (.v 7) 5] []
 zyz)
def zz1 : T :=
 .lets [] [.inr 6 (.v 0) (.v 7)] (.lets [.idx (.v 0) (.v 7) 0, .idx (.v 0) (.v 7) 1, .idx (.v 0) (.v 7) 2, .idx (.v 0) (.v 7) 3, .idx (.v 0) (.v 7) 4, .idx (.v 0) (.v 7) 5] []
 zz0)
def zz2 : T :=
 .ite (.v 4) (.ret [.c (.b false)]) (.lets [.len (.v 0)] [] (.loop [.c (.b false), .c (.i .i64 0)] (.lets [.bin .lss (.v 7) (.v 5)] [] (.ite (.v 8) zz1 (.ret [.c (.b
 true)])))))
def zg1 : T :=
 .lets [.len (.v 0)] [] (.lets [.len (.v 1)] [] (.lets [.bin .neq (.v 2) (.v 3)] [] zz2))
def zhv : T :=
 .lets [.call 22 [.v 0, .v 1] 0] [] (.ret [.v 2])
theorem zc8 : Meets Tryz.prog z2a 46 ⟨[.agg 2, .agg 2], [(false, [.scal])], true⟩ := by
 refine zo (sp := (z0i [(20, z71)])) (sigs := z0q) (cut := []) (hints := []) (fn := Tryz.f46) (t := zc7) (by kernel_rfl) (by kernel_rfl) (by kernel_rfl) ?_ ?_
 ·exact (z07 (L := [(20, z71)]) ⟨za rfl z00d, trivial⟩)
 ·rintro ds rs - h
  obtain ⟨⟨x, y⟩, -, rfl, rfl⟩ := zq h
  clear h
  refine ⟨⟨1, ?_⟩, z0c rfl⟩
  show den _ _ zc7 [I x.coin, .l 2 (x.lock.map eOp), I y.coin, .l 2 (y.lock.map eOp)] [] = ret (decide (x = y))
  rw [← z0cd]
  unfold zc7
  repeat' (first | refine dq1 ?_ | refine dqc ?_ | refine dqm ?_ | refine dqK rfl (zhb _ _) ?_ | exact z4 rfl rfl | ((first | refine tR ?_ ?_ | refine tB ?_ ?_ | refine tC ?_ ?_ | refine tN ?_ ?_ | refine tF ?_ ?_ | refine tG ?_ ?_ | refine tP ?_ ?_ | refine tQ ?_ ?_ | refine tA ?_ ?_ | refine tO ?_ ?_ | refine tU ?_ ?_ | refine tV ?_ ?_) <;> intro h) | refine dqT ?_ | refine dqF ?_ | refine z6 rfl ?_ | refine z5 rfl ?_ | refine z8 ?_ | refine z9 ?_)
theorem z0aa (x y : Coin) : (decide (x.p = y.p) && (decide (x.o = y.o) && (decide (x.height = y.height) && decide (x.reward = y.reward)))) = decide (x = y) := by
 cases x; cases y
 simp only [Coin.mk.injEq, Bool.decide_and]
noncomputable def z9y : zd := spD (fun _ : Coin × Coin => True) fun x => decide (x.1 = x.2)
theorem zpb (x y : Coin) : z9y (zg x ++ zg y) = some [.b (decide (x = y))] := zm (f := fun x : Coin × Coin => decide (x.1 = x.2)) (x, y) trivial
theorem z05b : Meets Tryz.prog z9y 45 ⟨[.agg 6, .agg 6], [(false, [.scal])], true⟩ := by
 refine zo (sp := (z0i [(21, z2a)])) (sigs := z0q) (cut := []) (hints := []) (fn := Tryz.f45) (t := zg0) (by kernel_rfl) (by kernel_rfl) (by kernel_rfl) ?_ ?_
 ·exact (z07 (L := [(21, z2a)]) ⟨za rfl zc8, trivial⟩)
 ·rintro ds rs - h
  obtain ⟨⟨x, y⟩, -, rfl, rfl⟩ := zq h
  clear h
  refine ⟨⟨1, ?_⟩, z0c rfl⟩
  show den _ _ zg0 [I x.p.tx, I x.p.at_, I x.o.coin, .l 2 (x.o.lock.map eOp), I x.height, .b x.reward, I y.p.tx, I y.p.at_, I y.o.coin, .l 2 (y.o.lock.map eOp), I y.height, .b y.reward] [] = ret (decide (x = y))
  rw [← z0aa]
  unfold zg0
  repeat' (first | refine dq1 ?_ | refine dqc ?_ | refine dqm ?_ | refine dqK rfl (z88 x.o y.o) ?_ | exact z4 rfl rfl | ((first | refine tR ?_ ?_ | refine tB ?_ ?_ | refine tC ?_ ?_ | refine tN ?_ ?_ | refine tF ?_ ?_ | refine tG ?_ ?_ | refine tP ?_ ?_ | refine tQ ?_ ?_ | refine tA ?_ ?_ | refine tO ?_ ?_ | refine tU ?_ ?_ | refine tV ?_ ?_) <;> intro h) | refine dqT ?_ | refine dqF ?_ | refine z6 rfl ?_ | refine z5 rfl ?_ | refine z8 ?_ | refine z9 ?_)
noncomputable def z9z : zd := spD (fun _ : List Coin × List Coin => True) fun x => decide (x.1 = x.2)
noncomputable def z97 : zd := spD (fun _ : List Coin × List Coin => True) fun x => decide (x.1 = x.2)
theorem zpc (l m : List Coin) : z9z [.l 6 (l.map zg), .l 6 (m.map zg)] = some [.b (decide (l = m))] := zm (f := fun x : List Coin × List Coin => decide (x.1 = x.2)) (l, m) trivial
theorem zvt (l m : List Coin) : z97 [.l 6 (l.map zg), .l 6 (m.map zg)] = some [.b (decide (l = m))] := zm (f := fun x : List Coin × List Coin => decide (x.1 = x.2)) (l, m) trivial
theorem zbo {α : Type} [DecidableEq α] (l m : List α) : decide (l = m) = if (l.length : Int) ≠ m.length then false else decide (l = m) := by
 by_cases h : (l.length : Int) ≠ m.length
 ·rw [if_pos h, decide_eq_false]
  rintro rfl
  exact h rfl
 ·rw [if_neg h]
theorem z05c : Meets Tryz.prog z9z 44 ⟨[.one, .one, .clos 45 []], [(false, [.scal])], true⟩ := by
 refine zo (sp := (z0i [(26, z9y)])) (sigs := z0q) (cut := []) (hints := [⟨4, [.t 6, .t 17]⟩]) (fn := Tryz.f44) (t := zg1) (by kernel_rfl) (by kernel_rfl) (by kernel_rfl) ?_ ?_
 ·exact (z07 (L := [(26, z9y)]) ⟨za rfl z05b, trivial⟩)
 ·rintro ds rs hok h
  obtain ⟨⟨l, m⟩, -, rfl, rfl⟩ := zq h
  clear h
  have hll := ok_l (hok (.l 6 (l.map zg)) (List.mem_cons_self ..))
  refine ⟨⟨l.length + 1, ?_⟩, z0c rfl⟩
  show den _ _ zg1 [.l 6 (l.map zg), .l 6 (m.map zg)] [] = ret (decide (l = m))
  rw [zbo]
  unfold zg1
  repeat' (first | refine dq1 ?_ | refine dqc ?_ | refine dqm ?_ | exact z4 rfl rfl | ((first | refine tR ?_ ?_ | refine tB ?_ ?_ | refine tC ?_ ?_ | refine tN ?_ ?_ | refine tF ?_ ?_ | refine tG ?_ ?_ | refine tP ?_ ?_ | refine tQ ?_ ?_ | refine tA ?_ ?_ | refine tO ?_ ?_ | refine tU ?_ ?_ | refine tV ?_ ?_) <;> intro h) | refine dqT ?_ | refine dqF ?_ | refine z6 rfl ?_ | refine z5 rfl ?_ | refine z8 ?_ | refine z9 ?_)
  have hlm : l.length = m.length := by omega
  (refine z09 (fun (_ : Unit) k => [.b false, I k]) (fun (_ : Unit) k (r : List Coin) => decide (r = m.drop k)) (fun _ _ => True) () l ?_ ?_ ?_ ?_ ?_; rfl; exact trivial; first | exact Nat.lt_succ_self _ | omega)
  ·rintro _ k x r hx hd hk - again hag
   have hy : m[k]? = some (m[k]'(by omega)) := List.getElem?_eq_getElem (by omega)
   have hdy : m.drop k = m[k]'(by omega) :: m.drop (k + 1) := List.drop_eq_getElem_cons (by omega)
   rw [hdy]
   generalize m[k]'(by omega) = y at *
   have e : decide (x :: r = y :: m.drop (k + 1)) = if decide (x = y) = true then decide (r = m.drop (k + 1)) else false := by
    by_cases h : x = y
    ·simp [h]
    ·simp [h]
   rw [e]
   have hkm : k < m.length := by omega
   repeat' (first | refine dq1 ?_ | refine dqc ?_ | refine dqm ?_ | refine dqK rfl (zpb x y) ?_ | exact z4 rfl rfl | exact ze rfl rfl (hag () trivial) | exact ze rfl rfl (hag _ trivial) | exact ze rfl rfl (hag _ (by omega)) | exact ze rfl rfl (hag _ (by assumption)) | ((first | refine tR ?_ ?_ | refine tB ?_ ?_ | refine tC ?_ ?_ | refine tN ?_ ?_ | refine tF ?_ ?_ | refine tG ?_ ?_ | refine tP ?_ ?_ | refine tQ ?_ ?_ | refine tA ?_ ?_ | refine tO ?_ ?_ | refine tU ?_ ?_ | refine tV ?_ ?_) <;> intro h) | refine dqT ?_ | refine dqF ?_ | refine z6 rfl ?_ | refine z5 rfl ?_ | refine z8 ?_ | refine z9 ?_)
  ·rintro _ - again
   rw [hlm, List.drop_length]
   repeat' (first | refine dq1 ?_ | refine dqc ?_ | refine dqm ?_ | exact z4 rfl rfl | ((first | refine tR ?_ ?_ | refine tB ?_ ?_ | refine tC ?_ ?_ | refine tN ?_ ?_ | refine tF ?_ ?_ | refine tG ?_ ?_ | refine tP ?_ ?_ | refine tQ ?_ ?_ | refine tA ?_ ?_ | refine tO ?_ ?_ | refine tU ?_ ?_ | refine tV ?_ ?_) <;> intro h) | refine dqT ?_ | refine dqF ?_ | refine z6 rfl ?_ | refine z5 rfl ?_ | refine z8 ?_ | refine z9 ?_)
theorem z080 : Meets Tryz.prog z97 13 ⟨[.one, .one], [(false, [.scal])], true⟩ := by
 refine zo (sp := (z0i [(22, z9z)])) (sigs := z0q) (cut := []) (hints := []) (fn := Tryz.f13) (t := zhv) (by kernel_rfl) (by kernel_rfl) (by kernel_rfl) ?_ ?_
 ·exact (z07 (L := [(22, z9z)]) ⟨za rfl z05c, trivial⟩)
 ·rintro ds rs - h
  obtain ⟨⟨l, m⟩, -, rfl, rfl⟩ := zq h
  clear h
  refine ⟨⟨1, ?_⟩, z0c rfl⟩
  show den _ _ zhv [.l 6 (l.map zg), .l 6 (m.map zg)] [] = ret (decide (l = m))
  unfold zhv
  repeat' (first | refine dq1 ?_ | refine dqc ?_ | refine dqm ?_ | refine dqK rfl (zpc l m) ?_ | exact z4 rfl rfl | ((first | refine tR ?_ ?_ | refine tB ?_ ?_ | refine tC ?_ ?_ | refine tN ?_ ?_ | refine tF ?_ ?_ | refine tG ?_ ?_ | refine tP ?_ ?_ | refine tQ ?_ ?_ | refine tA ?_ ?_ | refine tO ?_ ?_ | refine tU ?_ ?_ | refine tV ?_ ?_) <;> intro h) | refine dqT ?_ | refine dqF ?_ | refine z6 rfl ?_ | refine z5 rfl ?_ | refine z8 ?_ | refine z9 ?_)
end
section
open Go.RowKit
set_option maxRecDepth 100000
set_option maxHeartbeats 4000000
attribute [local irreducible] z0o spD z1j zu zl zf
noncomputable def z6r : zd := spD (fun x : List Coin × Tx × Int × List Coin => z1g x.2.2.2) fun x => z19 x.1 x.2.1 x.2.2.1 x.2.2.2
theorem zcw (l : List Coin) (t : Tx) (nm : Int) (u : List Coin) (h : z1g u) : z6r [.l 6 (l.map zg), I t.height, .l 3 (t.ins.map eIn), .l 2 (t.outs.map z27), I nm, .l 6 (u.map zg)] = some [.l 6 ((z19 l t nm u).1.map zg), I (z19 l t nm u).2] := zm (p := fun x : List Coin × Tx × Int × List Coin => z1g x.2.2.2) (f := fun x : List Coin × Tx × Int × List Coin => z19 x.1 x.2.1 x.2.2.1 x.2.2.2) (l, t, nm, u) h
def zvu : T :=
 .lets [.bin .add (.v 22) (.c (.i .i64 1))] [] (.lets [.call 14 [.v 17, .v 22, .v 29] 0] [] (.lets [.bin .add (.v 18) (.c (.i .i64 1))] [] (.again 0 [.v 15, .v 16, .v 30, .v 31])))
def zvv : T :=
 .lets [.idx (.v 17) (.v 22) 2, .idx (.v 17) (.v 22) 3] [] (.lets [.call 21 [.v 25, .v 26, .v 20, .v 21] 0] [] (.lets [.not (.v 27)] [] (.ite (.v 28) (.ret [.c (.nil 6), .c (.i .i64
 7)]) zvu)))
def zvw : T :=
 .lets [.call 6 [.v 17, .v 4, .v 18] 0, .call 6 [.v 17, .v 4, .v 18] 1] [] (.lets [.not (.v 23)] [] (.ite (.v 24) (.ret [.c (.nil 6), .c (.i .i64 7)]) (.lets [] [.inr 6 (.v 17) (.v
 22)] zvv)))
def zvx : T :=
 .lets [.mk 6 [[.v 27, .v 28, .v 29, .v 30, .v 31, .v 32]]] [] (.lets [.call 15 [.v 24, .v 33, .v 38] 0] [] (.lets [.bin .add (.v 25) (.c (.i .i64 1))] [] (.again 1 [.v 22, .v 23, .v
 39, .v 40])))
def zvy : T :=
 .lets [.idx (.v 2) (.v 25) 0, .idx (.v 2) (.v 25) 1] [] (.lets [.eqs true [(.v 35, .v 27), (.v 36, .v 28)]] [] (.ite (.v 37) (.ret [.c (.nil 6), .c (.i .i64 6)]) zvx))
def zvz : T :=
 .lets [.call 6 [.v 24, .v 27, .v 28] 0, .call 6 [.v 24, .v 27, .v 28] 1] [] (.ite (.v 34) (.ret [.c (.nil 6), .c (.i .i64 6)]) (.lets [] [.inr 3 (.v 2) (.v 25)] zvy))
def zw0 : T :=
 .lets [.idx (.v 20) (.v 25) 0, .idx (.v 20) (.v 25) 1, .idx (.v 20) (.v 25) 2, .idx (.v 20) (.v 25) 3, .idx (.v 20) (.v 25) 4, .idx (.v 20) (.v 25) 5] [] zvz
def zw1 : T :=
 .ite (.v 26) (.lets [] [.inr 6 (.v 20) (.v 25)] zw0) (.lets [.call 8 [.v 24] 0] [] (.lets [.bin .neq (.v 27) (.c (.i .i64 0))] [] (.ite (.v 28) (.ret [.c (.nil 6), .v 27])
 (.ret [.v 24, .c (.i .i64 0)]))))
def zw2 : T :=
 .ite (.v 19) (.lets [] [.inr 2 (.v 3) (.v 18)] (.lets [.idx (.v 3) (.v 18) 0, .idx (.v 3) (.v 18) 1] [] zvw)) (.lets [.call 11 [.v 5] 0] [] (.lets [.len (.v 20)] [] (.loop
 [.v 15, .v 16, .v 17, .c (.i .i64 0)] (.lets [.bin .lss (.v 25) (.v 21)] [] zw1))))
def zw3 : T :=
 .lets [.call 11 [.v 0] 0] [] (.lets [.len (.v 3)] [] (.loop [.c (.nil 6), .c (.i .i64 0), .v 13, .c (.i .i64 0)] (.lets [.bin .lss (.v 18) (.v 14)] [] zw2)))
def zpd : T :=
 .ite (.v 9) (.ret [.c (.nil 6), .v 8]) (.lets [.len (.v 5)] [] (.lets [.len (.v 2)] [] (.lets [.bin .neq (.v 10) (.v 11)] [] (.ite (.v 12) (.ret [.c (.nil 6), .c (.i .i64 4)])
 zw3))))
def zpe : T :=
 .lets [.bin .neq (.v 6) (.c (.i .i64 0))] [] (.ite (.v 7) (.ret [.c (.nil 6), .v 6]) (.lets [.call 17 [.v 1, .v 2, .v 3] 0] [] (.lets [.bin .neq (.v 8) (.c (.i .i64 0))] []
 zpd)))
def ze8 : T :=
 .lets [.call 8 [.v 0] 0] [] zpe
theorem z02c : Meets Tryz.prog z6r 95 ⟨[.one, .agg 3, .one, .agg 1], [(false, [.pure]), (false, [.scal])], false⟩ := by
 refine zo (sp := (z0i [(6, z5z), (8, z1f), (11, z5q), (14, z67), (15, z68), (17, z2m), (21, z2a)])) (sigs := z0q) (cut := []) (hints := [⟨11, [.r 8 86 6, .t 9, .r 0 86 6, .t 43, .z 39]⟩, ⟨19, [.r 8 86 6, .t 9, .r 0 86 6, .t 78]⟩]) (fn := Tryz.f95) (t := ze8) (by kernel_rfl) (by kernel_rfl) (by kernel_rfl) ?_ ?_
 ·exact (z07 (L := [(6, z5z), (8, z1f), (11, z5q), (14, z67), (15, z68), (17, z2m), (21, z2a)]) ⟨za rfl zne, za rfl z92, za rfl zv2, za rfl znr, za rfl zns, za rfl zfk, za rfl zc8, trivial⟩)
 ·rintro ds rs - h
  obtain ⟨⟨l, t, nm, u⟩, hu, rfl, rfl⟩ := zq h
  clear h
  simp only at hu
  refine ⟨⟨u.length + t.outs.length + 1, ?_⟩, z059⟩
  show den _ _ ze8 [.l 6 (l.map zg), I t.height, .l 3 (t.ins.map eIn), .l 2 (t.outs.map z27), I nm, .l 6 (u.map zg)] [] = ret (z19 l t nm u)
  unfold ze8 z19
  repeat' (first | refine dq1 ?_ | refine dqc ?_ | refine dqm ?_ | refine dqK rfl (z2e _) ?_ | refine dqK rfl (zel _) ?_ | exact z4 rfl rfl | ((first | refine tR ?_ ?_ | refine tB ?_ ?_ | refine tC ?_ ?_ | refine tN ?_ ?_ | refine tF ?_ ?_ | refine tG ?_ ?_ | refine tP ?_ ?_ | refine tQ ?_ ?_ | refine tA ?_ ?_ | refine tO ?_ ?_ | refine tU ?_ ?_ | refine tV ?_ ?_) <;> intro h) | refine dqT ?_ | refine dqF ?_ | refine z6 rfl ?_ | refine z5 rfl ?_ | refine z8 ?_ | refine z9 ?_)
  have hul : u.length = t.ins.length := by omega
  have ok : CoinsOK l := (z0j l).1 (Decidable.not_not.1 (by assumption))
  have okt : TxOK t := z2j (Decidable.not_not.1 (by assumption))
  have hl := ok.len
  have hti := okt.ins
  have hto := okt.outs
  repeat' (first | refine dq1 ?_ | refine dqc ?_ | refine dqm ?_ | refine dqK rfl (zb0 _ ok.short) ?_ | exact z4 rfl rfl | ((first | refine tR ?_ ?_ | refine tB ?_ ?_ | refine tC ?_ ?_ | refine tN ?_ ?_ | refine tF ?_ ?_ | refine tG ?_ ?_ | refine tP ?_ ?_ | refine tQ ?_ ?_ | refine tA ?_ ?_ | refine tO ?_ ?_ | refine tU ?_ ?_ | refine tV ?_ ?_) <;> intro h) | refine dqT ?_ | refine dqF ?_ | refine z6 rfl ?_ | refine z5 rfl ?_ | refine z8 ?_ | refine z9 ?_)
  (refine z09 (fun (r : List Coin) k => [.l 6 (([] : List Coin).map zg), I 0, .l 6 (r.map zg), I k]) (fun (r : List Coin) k (os : List Out) => ze5 nm zc6 (fun r => zbn t.ins zc6 zle r 0 u) r k os) (fun r k => z00 r ∧ r.length ≤ l.length) l t.outs ?_ ?_ ?_ ?_ ?_; rfl; exact ⟨ok.sorted, Nat.le_refl _⟩; omega)
  ·rintro r k o os hx hd hk ⟨hs, hrl⟩ again hag
   rw [ze5]
   repeat' (first | refine dq1 ?_ | refine dqc ?_ | refine dqm ?_ | refine dqK rfl (z4p r ⟨nm, k⟩ hs (by omega)) ?_ | exact z4 rfl rfl | ((first | refine tR ?_ ?_ | refine tB ?_ ?_ | refine tC ?_ ?_ | refine tN ?_ ?_ | refine tF ?_ ?_ | refine tG ?_ ?_ | refine tP ?_ ?_ | refine tQ ?_ ?_ | refine tA ?_ ?_ | refine tO ?_ ?_ | refine tU ?_ ?_ | refine tV ?_ ?_) <;> intro h) | refine dqT ?_ | refine dqF ?_ | refine z6 rfl ?_ | refine z5 rfl ?_ | refine z8 ?_ | refine z9 ?_)
   obtain ⟨hlt, hp⟩ := (zdi hs ⟨nm, k⟩).1 h
   have hc : r[zh r ⟨nm, k⟩]? = some r[zh r ⟨nm, k⟩] := List.getElem?_eq_getElem hlt
   rw [hc]
   generalize r[zh r ⟨nm, k⟩] = c at *
   have e1 : ((zh r ⟨nm, k⟩ : Int)).toNat = zh r ⟨nm, k⟩ := by omega
   have e2 : ((zh r ⟨nm, k⟩ : Int) + 1).toNat = zh r ⟨nm, k⟩ + 1 := by omega
   simp only [Option.getD_some]
   have hxo := hx
   have hx := hc
   repeat' (first | refine dq1 ?_ | refine dqc ?_ | refine dqm ?_ | refine dqK rfl (z88 c.o o) ?_ | refine dqK rfl (zej r (zh r ⟨nm, k⟩ : Int) ((zh r ⟨nm, k⟩ : Int) + 1) ⟨by omega, by omega, by omega⟩) ?_ | exact z4 rfl rfl | ((first | refine tR ?_ ?_ | refine tB ?_ ?_ | refine tC ?_ ?_ | refine tN ?_ ?_ | refine tF ?_ ?_ | refine tG ?_ ?_ | refine tP ?_ ?_ | refine tQ ?_ ?_ | refine tA ?_ ?_ | refine tO ?_ ?_ | refine tU ?_ ?_ | refine tV ?_ ?_) <;> intro h) | refine dqT ?_ | refine dqF ?_ | refine z6 rfl ?_ | refine z5 rfl ?_ | refine z8 ?_ | refine z9 ?_)
   rw [e1, e2]
   exact ze rfl rfl (hag _ ⟨z65 hs _, by simp only [List.length_append, List.length_take, List.length_drop]; omega⟩)
  ·rintro r ⟨hs, hrl⟩ again
   rw [ze5]
   repeat' (first | refine dq1 ?_ | refine dqc ?_ | refine dqm ?_ | refine dqK rfl (zb0 _ hu) ?_ | exact z4 rfl rfl | ((first | refine tR ?_ ?_ | refine tB ?_ ?_ | refine tC ?_ ?_ | refine tN ?_ ?_ | refine tF ?_ ?_ | refine tG ?_ ?_ | refine tP ?_ ?_ | refine tQ ?_ ?_ | refine tA ?_ ?_ | refine tO ?_ ?_ | refine tU ?_ ?_ | refine tV ?_ ?_) <;> intro h) | refine dqT ?_ | refine dqF ?_ | refine z6 rfl ?_ | refine z5 rfl ?_ | refine z8 ?_ | refine z9 ?_)
   (refine z09 (fun (r : List Coin) k => [.l 6 (([] : List Coin).map zg), I 0, .l 6 (r.map zg), I k]) (fun (r : List Coin) k (cs : List Coin) => zbn t.ins zc6 zle r k cs) (fun r k => z00 r ∧ r.length ≤ l.length + k) r u ?_ ?_ ?_ ?_ ?_; rfl; exact ⟨hs, hrl⟩; omega)
   ·rintro r k c cs hx hd hk ⟨hs, hrl⟩ again' hag
    rw [zbn]
    have hpl := zdh r c.p
    have e1 : ((zh r c.p : Int)).toNat = zh r c.p := by omega
    have hki : k < t.ins.length := by omega
    obtain ⟨x, hxi⟩ : ∃ x, t.ins[k]? = some x := ⟨_, List.getElem?_eq_getElem hki⟩
    rw [hxi]
    simp only [Option.getD_some]
    repeat' (first | refine dq1 ?_ | refine dqc ?_ | refine dqm ?_ | refine dqK rfl (z4p r c.p hs (by omega)) ?_ | exact z4 rfl rfl | ((first | refine tR ?_ ?_ | refine tB ?_ ?_ | refine tC ?_ ?_ | refine tN ?_ ?_ | refine tF ?_ ?_ | refine tG ?_ ?_ | refine tP ?_ ?_ | refine tQ ?_ ?_ | refine tA ?_ ?_ | refine tO ?_ ?_ | refine tU ?_ ?_ | refine tV ?_ ?_) <;> intro h) | refine dqT ?_ | refine dqF ?_ | refine z6 rfl ?_ | refine z5 rfl ?_ | refine z8 ?_ | refine z9 ?_)
    have hno := h
    have hxo := hx
    have hx := hxi
    repeat' (first | refine dq1 ?_ | refine dqc ?_ | refine dqm ?_ | exact z4 rfl rfl | ((first | refine tR ?_ ?_ | refine tB ?_ ?_ | refine tC ?_ ?_ | refine tN ?_ ?_ | refine tF ?_ ?_ | refine tG ?_ ?_ | refine tP ?_ ?_ | refine tQ ?_ ?_ | refine tA ?_ ?_ | refine tO ?_ ?_ | refine tU ?_ ?_ | refine tV ?_ ?_) <;> intro h) | refine dqT ?_ | refine dqF ?_ | refine z6 rfl ?_ | refine z5 rfl ?_ | refine z8 ?_ | refine z9 ?_)
    refine z7 (z29 (r := [c].map zg) rfl rfl (by simp)) ?_
    refine z7 (z28 rfl (z9l _ _ _ ⟨by omega, by omega, by omega⟩) rfl) ?_
    refine z7 (z7c rfl rfl (by omega)) ?_
    rw [e1]
    exact ze rfl rfl (hag _ ⟨z66 hs (by assumption), by simp only [List.length_append, List.length_take, List.length_drop, List.length_singleton]; omega⟩)
   ·rintro r hr again'
    rw [zbn]
    unfold zle
    repeat' (first | refine dq1 ?_ | refine dqc ?_ | refine dqm ?_ | refine dqK rfl (z2e _) ?_ | exact z4 rfl rfl | ((first | refine tR ?_ ?_ | refine tB ?_ ?_ | refine tC ?_ ?_ | refine tN ?_ ?_ | refine tF ?_ ?_ | refine tG ?_ ?_ | refine tP ?_ ?_ | refine tQ ?_ ?_ | refine tA ?_ ?_ | refine tO ?_ ?_ | refine tU ?_ ?_ | refine tV ?_ ?_) <;> intro h) | refine dqT ?_ | refine dqF ?_ | refine z6 rfl ?_ | refine z5 rfl ?_ | refine z8 ?_ | refine z9 ?_)
end
section
open Go.RowKit
theorem hasP_mem {l : List Coin} {p : Point} : z1t l p = true ↔ ∃ c ∈ l, c.p = p := by
 unfold z1t
 rw [List.any_eq_true]
 constructor
 ·rintro ⟨c, hc, h⟩; exact ⟨c, hc, of_decide_eq_true h⟩
 ·rintro ⟨c, hc, h⟩; exact ⟨c, hc, decide_eq_true h⟩
theorem hasP_not {l : List Coin} {p : Point} : z1t l p = false ↔ ∀ c ∈ l, c.p ≠ p := by
 rw [← Bool.not_eq_true, hasP_mem]
 constructor
 ·intro h c hc he; exact h ⟨c, hc, he⟩
 ·rintro h ⟨c, hc, he⟩; exact h c hc he
theorem zhc {l : List Coin} (h : z00 l) {c d : Coin} (hc : c ∈ l) (hd : d ∈ l) (hp : c.p = d.p) : c = d := by
 obtain ⟨i, hi, rfl⟩ := List.getElem_of_mem hc
 obtain ⟨j, hj, rfl⟩ := List.getElem_of_mem hd
 rcases Nat.lt_trichotomy i j with hij | rfl | hij
 ·have := z7e h hij hj; rw [hp] at this; exact absurd this (z4j _)
 ·rfl
 ·have := z7e h hij hi; rw [hp] at this; exact absurd this (z4j _)
theorem zw4 {l : List Coin} (h : z00 l) {c : Coin} (hc : c ∈ l) : l[zh l c.p]? = some c := by
 obtain ⟨hlt, hp⟩ := (zdi h c.p).1 (hasP_mem.2 ⟨c, hc, rfl⟩)
 rw [List.getElem?_eq_getElem hlt]
 exact congrArg some (zhc h (List.getElem_mem hlt) hc hp)
theorem z0ab {l : List Coin} (h : z00 l) {p : Point} (hp : z1t l p = true) : ∃ c, l[zh l p]? = some c ∧ c ∈ l ∧ c.p = p := by
 obtain ⟨c, hc, rfl⟩ := hasP_mem.1 hp
 exact ⟨c, zw4 h hc, hc, rfl⟩
theorem ze9 : ∀ {a b : List Coin}, z00 a → z00 b → (∀ c, c ∈ a ↔ c ∈ b) → a = b
 | [], [], _, _, _ => rfl
 | [], y :: b, _, _, h => by have := (h y).2 (List.mem_cons_self ..); cases this
 | x :: a, [], _, _, h => by have := (h x).1 (List.mem_cons_self ..); cases this
 | x :: a, y :: b, ha, hb, h => by
  have ha' := List.pairwise_cons.1 ha
  have hb' := List.pairwise_cons.1 hb
  have hxy : x = y := by
   rcases List.mem_cons.1 ((h x).1 (List.mem_cons_self ..)) with e | hx
   ·exact e
   ·rcases List.mem_cons.1 ((h y).2 (List.mem_cons_self ..)) with e | hy
    ·exact e.symm
    ·exact absurd (hb'.1 x hx) (zn9 (ha'.1 y hy))
  subst hxy
  congr 1
  refine ze9 ha'.2 hb'.2 fun c => ⟨fun hc => ?_, fun hc => ?_⟩
  ·rcases List.mem_cons.1 ((h c).1 (List.mem_cons_of_mem _ hc)) with rfl | h'
   ·exact absurd (ha'.1 c hc) (z4j _)
   ·exact h'
  ·rcases List.mem_cons.1 ((h c).2 (List.mem_cons_of_mem _ hc)) with rfl | h'
   ·exact absurd (hb'.1 c hc) (z4j _)
   ·exact h'
theorem zlf {l : List Coin} (h : z00 l) {c : Coin} {k : Nat} (hk : l[k]? = some c) {d : Coin} : d ∈ l.take k ++ l.drop (k + 1) ↔ d ∈ l ∧ d.p ≠ c.p := by
 obtain ⟨hlt, rfl⟩ := List.getElem?_eq_some_iff.1 hk
 have hsplit : l = l.take k ++ l[k] :: l.drop (k + 1) := by rw [List.getElem_cons_drop, List.take_append_drop]
 have hs : z00 (l.take k ++ l[k] :: l.drop (k + 1)) := by rw [← hsplit]; exact h
 obtain ⟨_, h2, h3⟩ := List.pairwise_append.1 hs
 have h2' := List.pairwise_cons.1 h2
 constructor
 ·intro hd
  refine ⟨?_, ?_⟩
  ·rcases List.mem_append.1 hd with hd | hd
   ·exact List.mem_of_mem_take hd
   ·exact List.mem_of_mem_drop hd
  ·rcases List.mem_append.1 hd with hd | hd
   ·intro e; have := h3 d hd l[k] (List.mem_cons_self ..); rw [e] at this; exact z4j _ this
   ·intro e; have := h2'.1 d hd; rw [e] at this; exact z4j _ this
 ·rintro ⟨hd, hne⟩
  rw [hsplit] at hd
  rcases List.mem_append.1 hd with hd | hd
  ·exact List.mem_append_left _ hd
  ·rcases List.mem_cons.1 hd with rfl | hd
   ·exact absurd rfl hne
   ·exact List.mem_append_right _ hd
theorem put_mem {l : List Coin} {c d : Coin} {k : Nat} : d ∈ l.take k ++ [c] ++ l.drop k ↔ d = c ∨ d ∈ l := by
 have : d ∈ l ↔ d ∈ l.take k ∨ d ∈ l.drop k := by rw [← List.mem_append, List.take_append_drop]
 rw [List.mem_append, List.mem_append, List.mem_singleton, this]
 constructor
 ·rintro ((h | h) | h)
  ·exact .inr (.inl h)
  ·exact .inl h
  ·exact .inr (.inr h)
 ·rintro (h | h | h)
  ·exact .inl (.inr h)
  ·exact .inl (.inl h)
  ·exact .inr h
theorem z05d {l : List Coin} {c : Coin} {k : Nat} (hk : l[k]? = some c) : zb l = zb (l.take k ++ l.drop (k + 1)) + c.o.coin := by
 obtain ⟨hlt, rfl⟩ := List.getElem?_eq_some_iff.1 hk
 have hsplit : l = l.take k ++ l[k] :: l.drop (k + 1) := by rw [List.getElem_cons_drop, List.take_append_drop]
 have e : zb l = zb (l.take k ++ l[k] :: l.drop (k + 1)) := by rw [← hsplit]
 rw [e, z3f, z3f, zb]
 omega
theorem z05e {l : List Coin} {c : Coin} {k : Nat} : zb (l.take k ++ [c] ++ l.drop k) = zb l + c.o.coin := by
 have e : zb l = zb (l.take k ++ l.drop k) := by rw [List.take_append_drop]
 rw [e, z3f, z3f, z3f, zb, zb]
 omega
structure Fine (h : Int) (x : In) (c : Coin) : Prop where
 p : c.p = x.p
 ripe : c.reward = true → c.height + 2 ≤ h
 opens : (z3g c.o.lock x.key h).1 = true
inductive Spent (h : Int) : List Coin → List Coin → List In → List Coin → List Coin → Prop
 | nil (r s) : Spent h r s [] r s
 | cons {r s x xs r' s' c} : c ∈ r → r[zh r x.p]? = some c → Fine h x c → Spent h (r.take (zh r x.p) ++ r.drop (zh r x.p + 1)) (s ++ [c]) xs r' s' → Spent h r s (x :: xs) r' s'
theorem zjm {ρ : Type} {h : Int} {bad : Int → ρ} {K : List Coin → List Coin → ρ} {r s : List Coin} {x : In} {xs : List In} {c : Coin} (hm : c ∈ r) (hc : r[zh r x.p]? = some c) (hf : Fine h x c) : z2w h bad K r s (x :: xs) = z2w h bad K (r.take (zh r x.p) ++ r.drop (zh r x.p + 1)) (s ++ [c]) xs := by
 have hp : z1t r x.p = true := hasP_mem.2 ⟨c, hm, hf.p⟩
 rw [z2w, if_pos hp, hc]
 simp only [Option.getD_some]
 rw [if_pos hf.opens]
 by_cases hr : c.reward = true
 ·rw [if_pos hr, if_neg (by have := hf.ripe hr; omega)]
 ·rw [if_neg hr]
theorem Spent.run {ρ : Type} {h : Int} {bad : Int → ρ} {K : List Coin → List Coin → ρ} {r s r' s' : List Coin} {xs : List In} (hs : Spent h r s xs r' s') : z2w h bad K r s xs = K r' s' := by
 induction hs with
 | nil r s => rfl
 | cons hm hc hf _ ih => rw [zjm hm hc hf, ih]
theorem zhw {h : Int} {K : List Coin → List Coin → List Coin × List Coin × Int} : ∀ {xs : List In} {r s : List Coin}, z00 r → (z2w h z3l K r s xs).2.2 = 0 → ∃ r' s', Spent h r s xs r' s' ∧ z2w h z3l K r s xs = K r' s'
 | [], r, s, _, _ => ⟨r, s, .nil r s, rfl⟩
 | x :: xs, r, s, hr, h0 => by
  by_cases hp : z1t r x.p = true
  ·obtain ⟨c, hc, hm, hcp⟩ := z0ab hr hp
   have hf : Fine h x c := by
    rw [z2w, if_pos hp, hc] at h0
    simp only [Option.getD_some] at h0
    by_cases hrw : c.reward = true
    ·rw [if_pos hrw] at h0
     by_cases hh : h < c.height + 2
     ·rw [if_pos hh] at h0; cases h0
     ·rw [if_neg hh] at h0
      by_cases ho : (z3g c.o.lock x.key h).1 = true
      ·exact ⟨hcp, fun _ => by omega, ho⟩
      ·rw [if_neg ho] at h0; cases h0
    ·rw [if_neg hrw] at h0
     by_cases ho : (z3g c.o.lock x.key h).1 = true
     ·exact ⟨hcp, fun h => absurd h hrw, ho⟩
     ·rw [if_neg ho] at h0; cases h0
   have e := zjm (bad := z3l) (K := K) (s := s) (xs := xs) hm hc hf
   rw [e] at h0 ⊢
   obtain ⟨r', s', h1, h2⟩ := zhw (z65 hr _) h0
   exact ⟨r', s', .cons hm hc hf h1, h2⟩
  ·rw [z2w, if_neg hp] at h0
   cases h0
structure SpentAs (h : Int) (r : List Coin) (xs : List In) (r' cs : List Coin) : Prop where
 sorted : z00 r'
 mem : ∀ c, c ∈ r' ↔ c ∈ r ∧ ∀ x ∈ xs, x.p ≠ c.p
 len : cs.length = xs.length
 fine : ∀ (i : Nat) (x : In), xs[i]? = some x → ∃ c, cs[i]? = some c ∧ c ∈ r ∧ Fine h x c
 apart : xs.Pairwise fun x y => x.p ≠ y.p
 total : zb r = zb r' + zb cs
theorem Spent.as {h : Int} {r s r' s' : List Coin} {xs : List In} (hs : Spent h r s xs r' s') : z00 r → ∃ cs, s' = s ++ cs ∧ SpentAs h r xs r' cs := by
 induction hs with
 | nil r s => exact fun hr => ⟨[], (List.append_nil s).symm, hr, fun c => by simp, rfl, fun i x hx => by simp at hx, .nil, by simp [zb]⟩
 | @cons r s x xs r' s' c hm hc hf hs ih =>
  intro hr
  obtain ⟨cs, rfl, H⟩ := ih (z65 hr _)
  have hcm := fun d => zlf hr hc (d := d)
  refine ⟨c :: cs, by simp, H.sorted, fun d => ?_, by simp [H.len], fun i y hy => ?_, ?_, ?_⟩
  ·rw [H.mem, hcm]
   constructor
   ·rintro ⟨⟨h1, h2⟩, h3⟩
    refine ⟨h1, fun y hy => ?_⟩
    rcases List.mem_cons.1 hy with rfl | hy
    ·rw [← hf.p]; exact fun e => h2 e.symm
    ·exact h3 y hy
   ·rintro ⟨h1, h2⟩
    exact ⟨⟨h1, fun e => h2 x (List.mem_cons_self ..) (by rw [← hf.p, e])⟩, fun y hy => h2 y (List.mem_cons_of_mem _ hy)⟩
  ·cases i with
   | zero =>
    simp only [List.getElem?_cons_zero, Option.some.injEq] at hy
    subst hy
    exact ⟨c, rfl, hm, hf⟩
   | succ i =>
    obtain ⟨d, h1, h2, h3⟩ := H.fine i y (by simpa using hy)
    exact ⟨d, by simpa using h1, (hcm d).1 h2 |>.1, h3⟩
  ·refine List.pairwise_cons.2 ⟨fun y hy => ?_, H.apart⟩
   obtain ⟨i, hi⟩ := List.getElem?_of_mem hy
   obtain ⟨d, _, h2, h3⟩ := H.fine i y hi
   have := ((hcm d).1 h2).2
   rw [h3.p, hf.p] at this
   exact fun e => this e.symm
  ·rw [z05d hc, H.total, zb]; omega
theorem Spent.of {h : Int} : ∀ {xs : List In} {r s cs : List Coin}, z00 r → xs.Pairwise (fun x y => x.p ≠ y.p) → cs.length = xs.length → (∀ (i : Nat) (x : In), xs[i]? = some x → ∃ c, cs[i]? = some c ∧ c ∈ r ∧ Fine h x c) → ∃ r', Spent h r s xs r' (s ++ cs)
 | [], r, s, cs, hr, ha, hl, hf => by
  have : cs = [] := List.eq_nil_of_length_eq_zero hl
  subst this
  exact ⟨r, by rw [List.append_nil]; exact .nil r s⟩
 | x :: xs, r, s, [], hr, ha, hl, hf => by cases hl
 | x :: xs, r, s, c :: cs, hr, ha, hl, hf => by
  obtain ⟨c', h1, hm, hfx⟩ := hf 0 x rfl
  simp only [List.getElem?_cons_zero, Option.some.injEq] at h1
  subst h1
  have hc : r[zh r x.p]? = some c := by rw [← hfx.p]; exact zw4 hr hm
  have ha' := List.pairwise_cons.1 ha
  obtain ⟨r', hs⟩ := Spent.of (s := s ++ [c]) (cs := cs) (z65 hr (zh r x.p)) ha'.2 (by simpa using hl) fun i y hy => by
   obtain ⟨d, k1, k2, k3⟩ := hf (i + 1) y (by simpa using hy)
   refine ⟨d, by simpa using k1, (zlf hr hc).2 ⟨k2, ?_⟩, k3⟩
   rw [k3.p, hfx.p]
   exact fun e => ha'.1 y (List.mem_of_getElem? hy) e.symm
  exact ⟨r', .cons hm hc hfx (by rw [List.append_assoc] at hs; exact hs)⟩
def z4y (nm h : Int) (rw : Bool) (i : Nat) (o : Out) : Coin := ⟨⟨nm, i⟩, o, h, rw⟩
inductive Brought (nm h : Int) (rw : Bool) : List Coin → Nat → List Out → List Coin → Prop
 | nil (r i) : Brought nm h rw r i [] r
 | cons {r : List Coin} {i : Nat} {o : Out} {os : List Out} {m : List Coin} : z1t r ⟨nm, i⟩ = false → Brought nm h rw (r.take (zh r ⟨nm, i⟩) ++ [z4y nm h rw i o] ++ r.drop (zh r ⟨nm, i⟩)) (i + 1) os m → Brought nm h rw r i (o :: os) m
theorem Brought.run {ρ : Type} {nm h : Int} {rw : Bool} {bad : Int → ρ} {K : List Coin → ρ} {r m : List Coin} {i : Nat} {os : List Out} (hb : Brought nm h rw r i os m) : z33 nm h rw bad K r i os = K m := by
 induction hb with
 | nil r i => rfl
 | cons hn _ ih => rw [z33, if_neg (by simp [hn])]; exact ih
theorem zhx {nm h : Int} {rw : Bool} {K : List Coin → List Coin × List Coin × Int} : ∀ {os : List Out} {r : List Coin} {i : Nat}, (z33 nm h rw z3l K r i os).2.2 = 0 → ∃ m, Brought nm h rw r i os m ∧ z33 nm h rw z3l K r i os = K m
 | [], r, i, _ => ⟨r, .nil r i, rfl⟩
 | o :: os, r, i, h0 => by
  rw [z33] at h0 ⊢
  cases hp : z1t r ⟨nm, i⟩ with
  | true => rw [hp, if_pos rfl] at h0; cases h0
  | false =>
   rw [hp, if_neg (by simp)] at h0
   rw [if_neg (by simp)]
   obtain ⟨m, h1, h2⟩ := zhx h0
   exact ⟨m, .cons hp h1, h2⟩
def z1a (os : List Out) : Int := (os.map Out.coin).sum
structure BroughtAs (nm h : Int) (rw : Bool) (r : List Coin) (i : Nat) (os : List Out) (m : List Coin) : Prop where
 sorted : z00 m
 mem : ∀ c, c ∈ m ↔ c ∈ r ∨ ∃ (j : Nat) (o : Out), os[j]? = some o ∧ c = z4y nm h rw (i + j) o
 free : ∀ c ∈ r, ∀ j, j < os.length → c.p ≠ ⟨nm, ((i + j : Nat) : Int)⟩
 total : zb m = zb r + z1a os
 len : m.length = r.length + os.length
theorem Brought.as {nm h : Int} {rw : Bool} {r m : List Coin} {i : Nat} {os : List Out} (hb : Brought nm h rw r i os m) : z00 r → BroughtAs nm h rw r i os m := by
 induction hb with
 | nil r i => exact fun hr => ⟨hr, fun c => by simp, fun c _ j hj => by simp at hj, by simp [z1a], by simp⟩
 | @cons r i o os m hn hb ih =>
  intro hr
  have H := ih (z66 hr (c := z4y nm h rw i o) hn)
  refine ⟨H.sorted, fun c => ?_, fun c hc j hj => ?_, ?_, ?_⟩
  ·rw [H.mem, put_mem]
   constructor
   ·rintro ((rfl | h1) | ⟨j, q, h1, h2⟩)
    ·exact .inr ⟨0, o, rfl, rfl⟩
    ·exact .inl h1
    ·exact .inr ⟨j + 1, q, by simpa using h1, by rw [h2, show i + 1 + j = i + (j + 1) by omega]⟩
   ·rintro (h1 | ⟨j, q, h1, h2⟩)
    ·exact .inl (.inr h1)
    ·cases j with
     | zero =>
      simp only [List.getElem?_cons_zero, Option.some.injEq] at h1
      subst h1
      exact .inl (.inl h2)
     | succ j => exact .inr ⟨j, q, by simpa using h1, by rw [h2, show i + 1 + j = i + (j + 1) by omega]⟩
  ·cases j with
   | zero => exact hasP_not.1 hn c hc
   | succ j =>
    have := H.free c (put_mem.2 (.inr hc)) j (by simpa using hj)
    rwa [show i + 1 + j = i + (j + 1) by omega] at this
  ·rw [H.total, z05e]
   simp only [z1a, List.map_cons, List.sum_cons, z4y]
   omega
  ·rw [H.len]
   simp only [List.length_append, List.length_take, List.length_drop, List.length_cons, List.length_nil]
   omega
theorem Brought.of {nm h : Int} {rw : Bool} : ∀ {os : List Out} {r : List Coin} {i : Nat}, z00 r → (∀ c ∈ r, ∀ j, j < os.length → c.p ≠ ⟨nm, ((i + j : Nat) : Int)⟩) → ∃ m, Brought nm h rw r i os m
 | [], r, i, _, _ => ⟨r, .nil r i⟩
 | o :: os, r, i, hr, hf => by
  have hn : z1t r ⟨nm, i⟩ = false := hasP_not.2 fun c hc => hf c hc 0 (by simp)
  obtain ⟨m, hb⟩ := Brought.of (os := os) (i := i + 1) (z66 hr (c := z4y nm h rw i o) hn) fun c hc j hj => by
   rcases put_mem.1 hc with rfl | hc
   ·simp only [z4y, ne_eq, Point.mk.injEq, not_and]
    intro _
    omega
   ·have := hf c hc (j + 1) (by simpa using hj)
    rwa [show i + (j + 1) = i + 1 + j by omega] at this
  exact ⟨m, .cons hn hb⟩
theorem z05f (os : List Out) : ∀ s : Int, os.foldl (fun s o => s - o.coin) s = s - z1a os := by
 induction os with
 | nil => intro s; simp [z1a]
 | cons o os ih => intro s; rw [List.foldl_cons, ih]; simp only [z1a, List.map_cons, List.sum_cons]; omega
theorem zea (t : Tx) (s : List Coin) : z23 t s = zb s - z1a t.outs := by
 unfold z23
 rw [z05f, zh8]
 omega
structure Done (l : List Coin) (t : Tx) (nm h : Int) (r s m : List Coin) : Prop where
 ok : CoinsOK l
 tx : zl t = 0
 nm1 : 1 ≤ nm
 nm2 : nm ≤ 120
 h1 : 1 ≤ h
 h2 : h ≤ 1000
 height : t.ins.length = 0 → t.height = h
 spent : Spent h l [] t.ins r s
 fee : t.ins.length ≠ 0 → 0 ≤ z23 t s
 brought : Brought nm h (decide ((t.ins.length : Int) = 0)) r 0 t.outs m
 end_ : CoinsOK m
theorem Done.run {l : List Coin} {t : Tx} {nm h : Int} {r s m : List Coin} (d : Done l t nm h r s m) : z04 l t nm h = (m, s, 0) := by
 unfold z04
 have hE : z9j s m = (m, s, 0) := by
  unfold z9j
  rw [if_neg (by rw [(z0j m).2 d.end_]; decide)]
 have a := d.nm1; have b := d.nm2; have c := d.h1; have e := d.h2
 rw [if_neg (by rw [(z0j l).2 d.ok]; decide), if_neg (by rw [d.tx]; decide), if_neg (by omega)]
 by_cases h0 : (t.ins.length : Int) = 0
 ·rw [if_pos h0, if_neg (by rw [d.height (by omega)]; simp), d.spent.run, d.brought.run, hE]
 ·rw [if_neg h0, d.spent.run, if_neg (by have := d.fee (by omega); omega), d.brought.run, hE]
theorem za0 {l : List Coin} {t : Tx} {nm h : Int} (h0 : (z04 l t nm h).2.2 = 0) : ∃ r, Done l t nm h r (z04 l t nm h).2.1 (z04 l t nm h).1 := by
 have key : ∃ r s m, Done l t nm h r s m := by
  unfold z04 at h0
  by_cases k1 : zu l = 0
  ·rw [if_neg (by rw [k1]; decide)] at h0
   have ok := (z0j l).1 k1
   by_cases k2 : zl t = 0
   ·rw [if_neg (by rw [k2]; decide)] at h0
    by_cases k3 : nm < 1 ∨ 120 < nm ∨ h < 1 ∨ 1000 < h
    ·rw [if_pos k3] at h0; cases h0
    ·rw [if_neg k3] at h0
     by_cases k4 : (t.ins.length : Int) = 0
     ·rw [if_pos k4] at h0
      by_cases k5 : t.height ≠ h
      ·rw [if_pos k5] at h0; cases h0
      ·rw [if_neg k5] at h0
       obtain ⟨r, s, q1, q2⟩ := zhw ok.sorted h0
       rw [q2] at h0
       obtain ⟨m, q3, q4⟩ := zhx h0
       rw [q4] at h0
       unfold z9j at h0
       by_cases k6 : zu m = 0
       ·exact ⟨r, s, m, ok, k2, by omega, by omega, by omega, by omega, fun _ => Decidable.not_not.1 k5, q1, fun h => absurd (by omega) h, q3, (z0j m).1 k6⟩
       ·rw [if_pos k6] at h0; exact absurd h0 k6
     ·rw [if_neg k4] at h0
      obtain ⟨r, s, q1, q2⟩ := zhw ok.sorted h0
      rw [q2] at h0
      by_cases k5 : z23 t s < 0
      ·simp only [if_pos k5] at h0; cases h0
      ·simp only [if_neg k5] at h0
       obtain ⟨m, q3, q4⟩ := zhx h0
       rw [q4] at h0
       unfold z9j at h0
       by_cases k6 : zu m = 0
       ·exact ⟨r, s, m, ok, k2, by omega, by omega, by omega, by omega, fun h => absurd (by omega) k4, q1, fun _ => by omega, q3, (z0j m).1 k6⟩
       ·rw [if_pos k6] at h0; exact absurd h0 k6
   ·rw [if_pos k2] at h0; exact absurd h0 k2
  ·rw [if_pos k1] at h0; exact absurd h0 k1
 obtain ⟨r, s, m, d⟩ := key
 refine ⟨r, ?_⟩
 rw [d.run]
 exact d
end
section
open Go.RowKit
theorem zw5 {ρ : Type} {nm h : Int} {rw : Bool} {bad : Int → ρ} {K : List Coin → ρ} : ∀ {os : List Out} {r m : List Coin} {i : Nat}, z00 r → Brought nm h rw r i os m → ze5 nm bad K m i os = K r
 | [], r, m, i, hr, hb => by cases hb; rfl
 | o :: os, r, m, i, hr, hb => by
  have B := hb.as hr
  have hmem : z4y nm h rw i o ∈ m := (B.mem _).2 (.inr ⟨0, o, rfl, rfl⟩)
  have hp : z1t m ⟨nm, i⟩ = true := hasP_mem.2 ⟨_, hmem, rfl⟩
  have hat : m[zh m ⟨nm, i⟩]? = some (z4y nm h rw i o) := zw4 B.sorted hmem
  have hfree : ∀ c ∈ r, ∀ j, j < os.length → c.p ≠ ⟨nm, ((i + 1 + j : Nat) : Int)⟩ := fun c hc j hj => by
   have := B.free c hc (j + 1) (by simpa using hj)
   rwa [show i + (j + 1) = i + 1 + j by omega] at this
  obtain ⟨m2, hb2⟩ := Brought.of (nm := nm) (h := h) (rw := rw) (os := os) (r := r) (i := i + 1) hr hfree
  have B2 := hb2.as hr
  have he : m.take (zh m ⟨nm, i⟩) ++ m.drop (zh m ⟨nm, i⟩ + 1) = m2 := by
   refine ze9 (z65 B.sorted _) B2.sorted fun c => ?_
   rw [zlf B.sorted hat, B.mem, B2.mem]
   constructor
   ·rintro ⟨h1 | ⟨j, q, h1, rfl⟩, h2⟩
    ·exact .inl h1
    ·cases j with
     | zero => exact absurd rfl h2
     | succ j => exact .inr ⟨j, q, by simpa using h1, by rw [show i + 1 + j = i + (j + 1) by omega]⟩
   ·rintro (h1 | ⟨j, q, h1, rfl⟩)
    ·exact ⟨.inl h1, by have := B.free c h1 0 (by simp); exact this⟩
    ·refine ⟨.inr ⟨j + 1, q, by simpa using h1, by rw [show i + 1 + j = i + (j + 1) by omega]⟩, ?_⟩
     simp only [z4y, ne_eq, Point.mk.injEq, not_and]
     intro _
     omega
  rw [ze5, if_pos hp, hat]
  simp only [Option.getD_some]
  rw [if_pos (by simp [z4y]), he]
  exact zw5 hr hb2
theorem zw6 {ρ : Type} {ins : List In} {bad : Int → ρ} {K : List Coin → ρ} : ∀ {cs r : List Coin} {k : Nat}, z00 r → (∀ c ∈ cs, ∀ d ∈ r, d.p ≠ c.p) → cs.Pairwise (fun c d => c.p ≠ d.p) → (∀ (j : Nat) (c : Coin), cs[j]? = some c → ∃ x, ins[k + j]? = some x ∧ x.p = c.p) → ∃ q, zbn ins bad K r k cs = K q ∧ z00 q ∧ ∀ c, c ∈ q ↔ c ∈ r ∨ c ∈ cs
 | [], r, k, hr, _, _, _ => ⟨r, rfl, hr, fun c => by simp⟩
 | c :: cs, r, k, hr, hd, hp, hi => by
  have hn : z1t r c.p = false := hasP_not.2 fun d hd' => hd c (List.mem_cons_self ..) d hd'
  obtain ⟨x, hx, hxp⟩ := hi 0 c rfl
  have hp' := List.pairwise_cons.1 hp
  obtain ⟨q, h1, h2, h3⟩ := zw6 (bad := bad) (K := K) (cs := cs) (r := r.take (zh r c.p) ++ [c] ++ r.drop (zh r c.p)) (k := k + 1) (z66 hr hn) (fun e he d hd' => by
   rcases put_mem.1 hd' with rfl | hd'
   ·exact hp'.1 e he
   ·exact hd e (List.mem_cons_of_mem _ he) d hd') hp'.2 fun j e he => by
    obtain ⟨y, hy, hyp⟩ := hi (j + 1) e (by simpa using he)
    exact ⟨y, by rwa [show k + (j + 1) = k + 1 + j by omega] at hy, hyp⟩
  refine ⟨q, ?_, h2, fun e => ?_⟩
  ·rw [zbn, if_neg (by simp [hn]), show k = k + 0 from rfl, hx]
   simp only [Option.getD_some]
   rw [if_neg (by simp [hxp])]
   exact h1
  ·rw [h3, put_mem, List.mem_cons]
   constructor
   ·rintro ((rfl | h) | h)
    ·exact .inr (.inl rfl)
    ·exact .inl h
    ·exact .inr (.inr h)
   ·rintro (h | rfl | h)
    ·exact .inl (.inr h)
    ·exact .inl (.inl rfl)
    ·exact .inr h
theorem SpentAs.apart' {h : Int} {l : List Coin} {xs : List In} {r cs : List Coin} (S : SpentAs h l xs r cs) : cs.Pairwise fun c d => c.p ≠ d.p := by
 rw [List.pairwise_iff_getElem]
 intro i j hi hj hij
 have hl := S.len
 obtain ⟨c, h1, _, h2⟩ := S.fine i xs[i] (List.getElem?_eq_getElem (by omega))
 obtain ⟨d, h3, _, h4⟩ := S.fine j xs[j] (List.getElem?_eq_getElem (by omega))
 rw [List.getElem?_eq_getElem hi] at h1
 rw [List.getElem?_eq_getElem hj] at h3
 injection h1 with h1
 injection h3 with h3
 rw [h1, h3, h2.p, h4.p]
 exact List.pairwise_iff_getElem.1 S.apart i j (by omega) (by omega) hij
theorem SpentAs.from {h : Int} {l : List Coin} {xs : List In} {r cs : List Coin} (S : SpentAs h l xs r cs) {c : Coin} (hc : c ∈ cs) : c ∈ l ∧ ∃ x ∈ xs, x.p = c.p := by
 obtain ⟨i, hi, rfl⟩ := List.getElem_of_mem hc
 have hl := S.len
 obtain ⟨c, h1, h2, h3⟩ := S.fine i xs[i] (List.getElem?_eq_getElem (by omega))
 rw [List.getElem?_eq_getElem hi] at h1
 injection h1 with h1
 rw [h1]
 exact ⟨h2, _, List.getElem_mem _, h3.p.symm⟩
theorem SpentAs.all {h : Int} {l : List Coin} {xs : List In} {r cs : List Coin} (S : SpentAs h l xs r cs) (hs : z00 l) {c : Coin} : c ∈ l ↔ c ∈ r ∨ c ∈ cs := by
 constructor
 ·intro hc
  by_cases hx : ∃ x ∈ xs, x.p = c.p
  ·obtain ⟨x, hx, he⟩ := hx
   obtain ⟨i, hi⟩ := List.getElem?_of_mem hx
   obtain ⟨d, h1, h2, h3⟩ := S.fine i x hi
   have : d = c := zhc hs h2 hc (h3.p.trans he)
   subst this
   exact .inr (List.mem_of_getElem? h1)
  ·exact .inl ((S.mem c).2 ⟨hc, fun x hx' he => hx ⟨x, hx', he⟩⟩)
 ·rintro (hc | hc)
  ·exact ((S.mem c).1 hc).1
  ·exact (S.from hc).1
theorem Done.spentAs {l : List Coin} {t : Tx} {nm h : Int} {r s m : List Coin} (d : Done l t nm h r s m) : SpentAs h l t.ins r s := by
 obtain ⟨cs, e, S⟩ := d.spent.as d.ok.sorted
 rw [List.nil_append] at e
 exact e ▸ S
theorem Done.broughtAs {l : List Coin} {t : Tx} {nm h : Int} {r s m : List Coin} (d : Done l t nm h r s m) : BroughtAs nm h (decide ((t.ins.length : Int) = 0)) r 0 t.outs m := d.brought.as d.spentAs.sorted
theorem Done.back {l : List Coin} {t : Tx} {nm h : Int} {r s m : List Coin} (d : Done l t nm h r s m) : z19 m t nm s = (l, 0) := by
 have S := d.spentAs
 unfold z19
 rw [if_neg (by rw [(z0j m).2 d.end_]; decide), if_neg (by rw [d.tx]; decide), if_neg (by have := S.len; omega), zw5 S.sorted d.brought]
 obtain ⟨q, h1, h2, h3⟩ := zw6 (ins := t.ins) (bad := zc6) (K := zle) (cs := s) (r := r) (k := 0) S.sorted (fun c hc e he => by
  obtain ⟨_, x, hx, hxp⟩ := S.from hc
  rw [← hxp]
  exact fun e' => ((S.mem e).1 he).2 x hx e'.symm) S.apart' fun j c hc => by
   have hj := (List.getElem?_eq_some_iff.1 hc).1
   have hl := S.len
   obtain ⟨c', k1, _, k3⟩ := S.fine j t.ins[j] (List.getElem?_eq_getElem (by omega))
   rw [hc] at k1
   injection k1 with k1
   exact ⟨t.ins[j], by rw [Nat.zero_add]; exact List.getElem?_eq_getElem (by omega), by rw [k1, k3.p]⟩
 rw [h1]
 have : q = l := ze9 h2 d.ok.sorted fun c => by rw [h3, S.all d.ok.sorted]
 subst this
 unfold zle
 rw [if_neg (by rw [(z0j q).2 d.ok]; decide)]
theorem Done.short {l : List Coin} {t : Tx} {nm h : Int} {r s m : List Coin} (d : Done l t nm h r s m) : z1g s := by
 have S := d.spentAs
 exact ⟨by have := S.len; have := (z2j d.tx).ins; omega, fun c hc => d.ok.short.2 c (S.from hc).1⟩
theorem zjn {l : List Coin} (h : CoinsOK l) : z3b l = (zb l, 0) := by
 unfold z3b
 rw [if_neg (by rw [(z0j l).2 h]; decide), zh8]
 simp
theorem zw7 {t : Tx} (ok : TxOK t) : 0 < z1a t.outs := by
 have key : ∀ os : List Out, (∀ o ∈ os, 1 ≤ o.coin) → (os.length : Int) ≤ z1a os := by
  intro os
  induction os with
  | nil => intro _; simp [z1a]
  | cons o os ih =>
   intro h
   have h1 := h o (List.mem_cons_self ..)
   have h2 := ih fun x hx => h x (List.mem_cons_of_mem _ hx)
   simp only [z1a, List.map_cons, List.sum_cons, List.length_cons] at h2 ⊢
   omega
 have := key t.outs fun o ho => (ok.good o ho).1
 have := ok.some
 omega
theorem z05g {m : List Coin} {p : Point} (ok : CoinsOK m) (h : z1t m p = false) : zv3 m p = (z6x, 7) := by
 unfold zv3
 rw [if_neg (by rw [(z0j m).2 ok]; decide), if_neg (by simp [h])]
theorem Done.gone {l : List Coin} {t : Tx} {nm h : Int} {r s m : List Coin} (d : Done l t nm h r s m) {x : In} (hx : x ∈ t.ins) (hn : x.p.tx ≠ nm) : zv3 m x.p = (z6x, 7) := by
 have S := d.spentAs
 have B := d.broughtAs
 refine z05g d.end_ (hasP_not.2 fun c hc e => ?_)
 rcases (B.mem c).1 hc with hc | ⟨j, o, _, rfl⟩
 ·exact ((S.mem c).1 hc).2 x hx e.symm
 ·exact hn (by rw [← e]; rfl)
end
section
open Go.RowKit
open Go.Lib (itoa)
set_option maxRecDepth 100000
set_option maxHeartbeats 4000000
def za8 (b : Block) (ns : List Int) (l : List Coin) (us : List Undo) (most : Int) : List Coin × List Undo × Int :=
 if most < -z23 (b.txs.getD 0 zTx) [] then ([], [], 9) else
 if (z04 l (b.txs.getD 0 zTx) (ns.getD 0 0) b.height).2.2 ≠ 0 then ([], [], (z04 l (b.txs.getD 0 zTx) (ns.getD 0 0) b.height).2.2) else
 ((z04 l (b.txs.getD 0 zTx) (ns.getD 0 0) b.height).1, us.set 0 ⟨(z04 l (b.txs.getD 0 zTx) (ns.getD 0 0) b.height).2.1⟩, 0)
def z4q (b : Block) (ns : List Int) (l : List Coin) (us : List Undo) (most : Int) (i : Nat) : List Tx → List Coin × List Undo × Int
 | [] => za8 b ns l us most
 | t :: r => if (z04 l t (ns.getD i 0) b.height).2.2 ≠ 0 then ([], [], (z04 l t (ns.getD i 0) b.height).2.2) else
  z4q b ns (z04 l t (ns.getD i 0) b.height).1 (us.set i ⟨(z04 l t (ns.getD i 0) b.height).2.1⟩) (most + z23 t (z04 l t (ns.getD i 0) b.height).2.1) (i + 1) r
def z1z (k : Book) (l : List Coin) (b : Block) : List Coin × List Undo × Int :=
 if zu l ≠ 0 then ([], [], zu l) else
 if (z0d k b).2.2.2 ≠ 0 then ([], [], (z0d k b).2.2.2) else
 z4q b (z0d k b).2.2.1 l (List.replicate b.txs.length ⟨[]⟩) (z0w b.height) 1 (b.txs.drop 1)
theorem zeb {k : Book} {b : Block} (h : (z0d k b).2.2.2 = 0) : zp b = 0 ∧ (z0d k b).2.2.1.length = b.txs.length := by
 unfold z0d at h ⊢
 by_cases hp : (z06 b).2 = 0
 ·rw [if_neg (fun k => k hp)] at h ⊢
  refine ⟨zeh hp, ?_⟩
  unfold ze2 at h ⊢
  by_cases ha : (z0p k (zgm b ++ [(z06 b).1])).2.2 = 0
  ·rw [if_neg (fun k => k ha)]
   have := zh7 ha
   have h1 : (zgm b).length = b.txs.length := by simp [zgm]
   show (List.take _ _).length = _
   rw [List.length_take, this, List.length_append, h1, List.length_singleton]
   omega
  ·rw [if_pos ha] at h; exact absurd h ha
 ·rw [if_pos hp] at h; exact absurd h hp
theorem z081 {t : Tx} (h : zl t = 0) : zcu (t, []) := by
 have ok := z2j h
 exact ⟨by simp, by simp, by have := ok.outs; simp only; omega, fun o ho => by have := ok.good o ho; omega⟩
theorem z0ac {t : Tx} (ok : TxOK t) : z1a t.outs ≤ 1000000000 * t.outs.length := by
 have key : ∀ os : List Out, (∀ o ∈ os, o.coin ≤ 1000000000) → z1a os ≤ 1000000000 * os.length := by
  intro os
  induction os with
  | nil => intro _; simp [z1a]
  | cons o os ih =>
   intro h
   have h1 := h o (List.mem_cons_self ..)
   have h2 := ih fun x hx => h x (List.mem_cons_of_mem _ hx)
   simp only [z1a, List.map_cons, List.sum_cons, List.length_cons] at h2 ⊢
   omega
 exact key t.outs fun o ho => (ok.good o ho).2.1
theorem z0ad {t : Tx} (h : zl t = 0) : -10000000000 ≤ z23 t [] ∧ z23 t [] < 0 := by
 have ok := z2j h
 have h1 := zw7 ok
 have h2 := z0ac ok
 have h3 := ok.outs
 rw [zea]
 simp only [zb]
 omega
theorem z05h {l : List Coin} {t : Tx} {nm h : Int} (h0 : (z04 l t nm h).2.2 = 0) : zcu (t, (z04 l t nm h).2.1) ∧ -10000000000 ≤ z23 t (z04 l t nm h).2.1 ∧ z23 t (z04 l t nm h).2.1 ≤ 10000000000 := by
 obtain ⟨r, d⟩ := za0 h0
 generalize (z04 l t nm h).2.1 = s at *
 generalize (z04 l t nm h).1 = m at *
 have ok := z2j d.tx
 have S := d.spentAs
 have B := d.broughtAs
 have h1 := S.total
 have h2 := B.total
 have hl := d.ok.total
 have hm := d.end_.total
 have hr : 0 ≤ zb r := z5j fun c hc => d.ok.good c ((S.mem c).1 hc).1
 have hs : 0 ≤ zb s := z5j fun c hc => d.ok.good c (S.from hc).1
 have ho := zw7 ok
 have hsl := S.len
 have := ok.ins
 have := ok.outs
 refine ⟨⟨by simp only; omega, fun c hc => by have := z35 (d.ok.good c (S.from hc).1); omega, by simp only; omega, fun o ho => by have := ok.good o ho; omega⟩, ?_⟩
 rw [zea]
 omega
section
variable {sp : Nat → zd} {N : Nat} {E E' : Env} {ks : List (List Dt → Option (List Dt))} {res : Option (List Dt)} {k : T}
theorem z082 {a : Atom} {n : Nat} (ha : a.val E = some (I n)) (h : n ≤ 1000) : denX sp E (.mkz 1 [.nil 6] a) = some (.l 1 ((List.replicate n (⟨[]⟩ : Undo)).map z6v)) := by
 rw [z0bw (sz := 1) (z := [.nil 6]) ha (by omega) (by omega) rfl, Int.toNat_natCast, List.map_replicate]
 rfl
theorem zlg {α : Type} {f : α → List Dt} {l : List α} {x y : α} {sz j n : Nat} {m : Int} {a b : Atom} {vs : List Atom} {ds : List Dt} (hm : m.toNat = n) (ha : a.val E = some (.l sz (l.map f))) (hb : b.val E = some (I m)) (hv : vals E vs = some ds) (h0 : 0 ≤ m) (hs : j + ds.length ≤ sz) (hx : l[n]? = some x) (hy : z53 (f x) j ds = f y) : denX sp E (.set a b j vs) = some (.l sz ((l.set n y).map f)) := by
 subst hm
 exact z048 ha hb hv h0 hs hx hy
theorem dqs {x : X} (hk : den sp N k E ks = res) (h : denX sp E x = some (.b true)) : den sp N (.lets [] [x] k) E ks = res := zcj (by with_unfolding_all simp only [z1h, h]) hk
theorem z083 {σ ρ : Type} [Enc ρ] {ats : List Atom} {body : T} (enc : σ → Int → List Dt) (go : σ → Nat → ρ) (Inv : σ → Nat → Prop) (s0 : σ) (n : Nat) (h : vals E ats = some (enc s0 n)) (h0 : Inv s0 n) (hN : n < N)
  (step : ∀ (s : σ) (i : Nat), i < n → Inv s (i + 1) → ∀ again : List Dt → Option (List Dt), (∀ s', Inv s' i → again (enc s' i) = ret (go s' i)) → den sp N body (E ++ enc s ((i : Int) + 1)) (ks ++ [again]) = ret (go s (i + 1)))
  (last : ∀ (s : σ), Inv s 0 → ∀ again : List Dt → Option (List Dt), den sp N body (E ++ enc s 0) (ks ++ [again]) = ret (go s 0)) : den sp N (.loop ats body) E ks = ret (go s0 n) := by
 refine zar h ?_
 have key : ∀ (i : Nat) (s : σ), i ≤ n → Inv s i → ∀ M, i < M → z34 (fun again ds => den sp N body (E ++ ds) (ks ++ [again])) M (enc s i) = ret (go s i) := by
  intro i
  induction i with
  | zero =>
   intro s _ hi M hM
   obtain ⟨M, rfl⟩ : ∃ j, M = j + 1 := ⟨M - 1, by omega⟩
   rw [z34]
   exact last s hi _
  | succ i ih =>
   intro s hn hi M hM
   obtain ⟨M, rfl⟩ : ∃ j, M = j + 1 := ⟨M - 1, by omega⟩
   rw [z34]
   exact step s i (by omega) hi _ fun s' hi' => ih s' (by omega) hi' M (by omega)
 exact key n s0 (Nat.le_refl _) h0 N hN
end
theorem z3i {α : Type} {l : List α} {i : Nat} (d : α) (h : i < l.length) : l[i]? = some (l.getD i d) := by
 rw [List.getD_eq_getElem?_getD, List.getElem?_eq_getElem h]
 rfl
def zbp (b : Block) (ns : List Int) (us : List Undo) (l : List Coin) : Nat → List Coin × Int
 | 0 => (l, 0)
 | i + 1 => if (z19 l (b.txs.getD (i + 1) zTx) (ns.getD (i + 1) 0) (us.getD (i + 1) ⟨[]⟩).spent).2 ≠ 0 then ([], (z19 l (b.txs.getD (i + 1) zTx) (ns.getD (i + 1) 0) (us.getD (i + 1) ⟨[]⟩).spent).2) else
  zbp b ns us (z19 l (b.txs.getD (i + 1) zTx) (ns.getD (i + 1) 0) (us.getD (i + 1) ⟨[]⟩).spent).1 i
def z8w (k : Book) (l : List Coin) (b : Block) (us : List Undo) : List Coin × Int :=
 if zu l ≠ 0 then ([], zu l) else
 if (z0d k b).2.2.2 ≠ 0 then ([], (z0d k b).2.2.2) else
 if (us.length : Int) ≠ b.txs.length then ([], 4) else
 if (z19 l (b.txs.getD 0 zTx) ((z0d k b).2.2.1.getD 0 0) (us.getD 0 ⟨[]⟩).spent).2 ≠ 0 then ([], (z19 l (b.txs.getD 0 zTx) ((z0d k b).2.2.1.getD 0 0) (us.getD 0 ⟨[]⟩).spent).2) else
 zbp b (z0d k b).2.2.1 us (z19 l (b.txs.getD 0 zTx) ((z0d k b).2.2.1.getD 0 0) (us.getD 0 ⟨[]⟩).spent).1 (b.txs.length - 1)
noncomputable def z1s : zd := spD (fun _ : Book × List Coin × Block => True) fun x => z1z x.1 x.2.1 x.2.2
theorem zb1 (k : Book) (l : List Coin) (b : Block) : z1s [.l 1 (k.texts.map z24), .l 6 (l.map zg), I b.parent, I b.height, I b.work, I b.nonce, .l 3 (b.txs.map eTx)] = some [.l 6 ((z1z k l b).1.map zg), .l 1 ((z1z k l b).2.1.map z6v), I (z1z k l b).2.2] := zm (f := fun x : Book × List Coin × Block => z1z x.1 x.2.1 x.2.2) (k, l, b) trivial
def z2b (us : List Undo) : Prop := ∀ u ∈ us, z1g u.spent
noncomputable def z4m : zd := spD (fun x : Book × List Coin × Block × List Undo => z2b x.2.2.2) fun x => z8w x.1 x.2.1 x.2.2.1 x.2.2.2
theorem zpf (k : Book) (l : List Coin) (b : Block) (us : List Undo) (h : z2b us) : z4m [.l 1 (k.texts.map z24), .l 6 (l.map zg), I b.parent, I b.height, I b.work, I b.nonce, .l 3 (b.txs.map eTx), .l 1 (us.map z6v)] = some [.l 6 ((z8w k l b us).1.map zg), I (z8w k l b us).2] := zm (p := fun x : Book × List Coin × Block × List Undo => z2b x.2.2.2) (f := fun x : Book × List Coin × Block × List Undo => z8w x.1 x.2.1 x.2.2.1 x.2.2.2) (k, l, b, us) h
theorem znt : z1g [] := ⟨by simp, by simp⟩
theorem z05i {E : Env} {as0 : List Atom} {l : List Coin} {n m : Int} (h : vals E as0 = some [.l 6 (l.map zg), I 0, .l 6 [], I 0, I n]) (e : n = m) : vals E as0 = some [.l 6 (l.map zg), I 0, .l 6 [], I 0, I m] := e ▸ h
theorem zg2 (n : Int) : 0 ≤ z0w n ∧ z0w n ≤ 1000 := by
 have h := zno n
 exact h
theorem zw8 {us : List Undo} (h : z2b us) (i : Nat) : z1g (us.getD i ⟨[]⟩).spent := by
 rw [List.getD_eq_getElem?_getD]
 cases hi : us[i]? with
 | none => exact znt
 | some u => exact h u (List.mem_of_getElem? hi)
attribute [local irreducible] den denX z0y z1h
attribute [local irreducible] z0o spD z04 z19 z23 z0d zu z0w
def zlh : T :=
 .lets [.call 13 [.v 35, .v 36, .v 37, .v 38] 0] [] (.lets [.bin .add (.v 22) (.v 39)] [] (.lets [.bin .add (.v 23) (.c (.i .i64 1))] [] (.again 0 [.v 30, .v 19, .v 33, .v 32, .v 40,
 .v 41])))
def zli : T :=
 .lets [.idx (.v 6) (.v 23) 0, .idx (.v 6) (.v 23) 1, .idx (.v 6) (.v 23) 2] [] (.lets [] [.inr 1 (.v 33) (.v 23)] (.lets [.idx (.v 33) (.v 23) 0] [] zlh))
def zlj : T :=
 .lets [.set (.v 20) (.v 23) 0 [.v 31]] [] (.lets [.bin .neq (.v 32) (.c (.i .i64 0))] [] (.ite (.v 34) (.ret [.c (.nil 6), .c (.nil 1), .v 32]) (.lets [] [.inr 3 (.v 6) (.v 23)]
 zli)))
def zlk : T :=
 .lets [.call 18 [.v 18, .v 26, .v 27, .v 28, .v 29, .v 3] 0, .call 18 [.v 18, .v 26, .v 27, .v 28, .v 29, .v 3] 1, .call 18 [.v 18, .v 26, .v 27, .v 28, .v 29, .v 3] 2] [] (.lets []
 [.inr 1 (.v 20) (.v 23)] zlj)
def zll : T :=
 .lets [.idx (.v 6) (.v 23) 0, .idx (.v 6) (.v 23) 1, .idx (.v 6) (.v 23) 2] [] (.lets [] [.inr 1 (.v 11) (.v 23)] (.lets [.idx (.v 11) (.v 23) 0] [] zlk))
def zlm : T :=
 .lets [.set (.v 20) (.c (.i .i64 0)) 0 [.v 37]] [] (.lets [.bin .neq (.v 38) (.c (.i .i64 0))] [] (.ite (.v 40) (.ret [.c (.nil 6), .c (.nil 1), .v 38]) (.ret [.v 36, .v 39, .c (.i
 .i64 0)])))
def zln : T :=
 .lets [.call 18 [.v 18, .v 32, .v 33, .v 34, .v 35, .v 3] 0, .call 18 [.v 18, .v 32, .v 33, .v 34, .v 35, .v 3] 1, .call 18 [.v 18, .v 32, .v 33, .v 34, .v 35, .v 3] 2] [] (.lets []
 [.inr 1 (.v 20) (.c (.i .i64 0))] zlm)
def zlo : T :=
 .lets [.idx (.v 6) (.c (.i .i64 0)) 0, .idx (.v 6) (.c (.i .i64 0)) 1, .idx (.v 6) (.c (.i .i64 0)) 2] [] (.lets [] [.inr 1 (.v 11) (.c (.i .i64 0))] (.lets [.idx (.v 11) (.c (.i
 .i64 0)) 0] [] zln))
def zlp : T :=
 .lets [.neg (.v 29)] [] (.lets [.bin .gtr (.v 30) (.v 22)] [] (.ite (.v 31) (.ret [.c (.nil 6), .c (.nil 1), .c (.i .i64 9)]) (.lets [] [.inr 3 (.v 6) (.c (.i .i64 0))]
 zlo)))
def zlq : T :=
 .lets [.idx (.v 6) (.c (.i .i64 0)) 0, .idx (.v 6) (.c (.i .i64 0)) 1, .idx (.v 6) (.c (.i .i64 0)) 2] [] (.lets [.call 13 [.v 26, .v 27, .v 28, .c (.nil 6)] 0] [] zlp)
def zjo : T :=
 .lets [.len (.v 6)] [] (.lets [.bin .lss (.v 23) (.v 24)] [] (.ite (.v 25) (.lets [] [.inr 3 (.v 6) (.v 23)] zll) (.lets [] [.inr 3 (.v 6) (.c (.i .i64 0))]
 zlq)))
def zjp : T :=
 .lets [.call 73 [.v 3] 0, .call 73 [.v 3] 1] [] (.lets [.len (.v 6)] [] (.lets [.mkz 1 [.nil 6] (.v 16)] [] (.loop [.v 1, .c (.nil 6), .v 17, .v 12, .v 14, .c (.i .i64 1)]
 zjo)))
def zjq : T :=
 .lets [.call 72 [.v 0, .v 2, .v 3, .v 4, .v 5, .v 6] 0, .call 72 [.v 0, .v 2, .v 3, .v 4, .v 5, .v 6] 1, .call 72 [.v 0, .v 2, .v 3, .v 4, .v 5, .v 6] 2, .call 72 [.v 0, .v 2, .v 3,
 .v 4, .v 5, .v 6] 3] [] (.lets [.bin .neq (.v 12) (.c (.i .i64 0))] [] (.ite (.v 13) (.ret [.c (.nil 6), .c (.nil 1), .v 12]) zjp))
def zb2 : T :=
 .lets [.call 8 [.v 1] 0] [] (.lets [.bin .neq (.v 7) (.c (.i .i64 0))] [] (.ite (.v 8) (.ret [.c (.nil 6), .c (.nil 1), .v 7]) zjq))
def zz3 : T :=
 .lets [.bin .neq (.v 40) (.c (.i .i64 0))] [] (.ite (.v 41) (.ret [.c (.nil 6), .v 40]) (.lets [.bin .sub (.v 32) (.c (.i .i64 1))] [] (.again 0 [.v 39, .v 40, .v 30, .v 31, .v
 42])))
def zz4 : T :=
 .lets [.idx (.v 7) (.v 32) 0] [] (.lets [.call 27 [.v 28, .v 34, .v 35, .v 36, .v 37, .v 38] 0, .call 27 [.v 28, .v 34, .v 35, .v 36, .v 37, .v 38] 1] [] zz3)
def zz5 : T :=
 .lets [.idx (.v 6) (.v 32) 0, .idx (.v 6) (.v 32) 1, .idx (.v 6) (.v 32) 2] [] (.lets [] [.inr 1 (.v 12) (.v 32)] (.lets [.idx (.v 12) (.v 32) 0] [] (.lets [] [.inr 1 (.v 7) (.v
 32)] zz4)))
def zz6 : T :=
 .loop [.v 23, .v 24, .c (.nil 6), .c (.i .i64 0), .v 27] (.lets [.bin .gtr (.v 32) (.c (.i .i64 0))] [] (.ite (.v 33) (.lets [] [.inr 3 (.v 6) (.v 32)] zz5) (.ret [.v 28, .c
 (.i .i64 0)])))
def zz7 : T :=
 .lets [.bin .neq (.v 24) (.c (.i .i64 0))] [] (.ite (.v 25) (.ret [.c (.nil 6), .v 24]) (.lets [.len (.v 6)] [] (.lets [.bin .sub (.v 26) (.c (.i .i64 1))] [] zz6)))
def zz8 : T :=
 .lets [.idx (.v 7) (.c (.i .i64 0)) 0] [] (.lets [.call 27 [.v 1, .v 18, .v 19, .v 20, .v 21, .v 22] 0, .call 27 [.v 1, .v 18, .v 19, .v 20, .v 21, .v 22] 1] [] zz7)
def zz9 : T :=
 .lets [.idx (.v 6) (.c (.i .i64 0)) 0, .idx (.v 6) (.c (.i .i64 0)) 1, .idx (.v 6) (.c (.i .i64 0)) 2] [] (.lets [] [.inr 1 (.v 12) (.c (.i .i64 0))] (.lets [.idx (.v 12) (.c (.i
 .i64 0)) 0] [] (.lets [] [.inr 1 (.v 7) (.c (.i .i64 0))] zz8)))
def zza : T :=
 .lets [.len (.v 6)] [] (.lets [.bin .neq (.v 15) (.v 16)] [] (.ite (.v 17) (.ret [.c (.nil 6), .c (.i .i64 4)]) (.lets [] [.inr 3 (.v 6) (.c (.i .i64 0))] zz9)))
def zzb : T :=
 .lets [.call 72 [.v 0, .v 2, .v 3, .v 4, .v 5, .v 6] 0, .call 72 [.v 0, .v 2, .v 3, .v 4, .v 5, .v 6] 1, .call 72 [.v 0, .v 2, .v 3, .v 4, .v 5, .v 6] 2, .call 72 [.v 0, .v 2, .v 3,
 .v 4, .v 5, .v 6] 3] [] (.lets [.bin .neq (.v 13) (.c (.i .i64 0))] [] (.ite (.v 14) (.ret [.c (.nil 6), .v 13]) (.lets [.len (.v 7)] [] zza)))
def zg3 : T :=
 .lets [.call 8 [.v 1] 0] [] (.lets [.bin .neq (.v 8) (.c (.i .i64 0))] [] (.ite (.v 9) (.ret [.c (.nil 6), .v 8]) zzb))
attribute [local irreducible] z26 z2g z87 z1f z72
theorem zg4 : Meets Tryz.prog z1s 16 ⟨[.agg 1, .one, .agg 5], [(false, [.pure]), (false, [.pure]), (false, [.scal])], false⟩ := by
 refine zo (sp := (z0i [(8, z1f), (13, z72), (18, z87), (72, z26), (73, z2g)])) (sigs := z0q) (cut := []) (hints := [⟨10, [.t 1, .r 6 86 6, .r 7 101 1, .t 8, .t 13, .t 15, .z 41]⟩]) (fn := Tryz.f16) (t := zb2) (by kernel_rfl) (by kernel_rfl) (by kernel_rfl) ?_ ?_
 ·exact (z07 (L := [(8, z1f), (13, z72), (18, z87), (72, z26), (73, z2g)]) ⟨za rfl z92, za rfl z00c, za rfl z05a, za rfl ze4, za rfl zfw, trivial⟩)
 ·rintro ds rs hok h
  obtain ⟨⟨k, l, b⟩, -, rfl, rfl⟩ := zq h
  clear h
  refine ⟨⟨100, ?_⟩, z96 ⟨rfl, trivial⟩⟩
  show den _ _ zb2 [.l 1 (k.texts.map z24), .l 6 (l.map zg), I b.parent, I b.height, I b.work, I b.nonce, .l 3 (b.txs.map eTx)] [] = ret (z1z k l b)
  have a1 := z2e l
  have a2 := z8j k b
  have a3 := zaz b.height
  have hnm := zeb (k := k) (b := b)
  have hrw : 0 ≤ z0w b.height ∧ z0w b.height ≤ 1000 := zg2 b.height
  unfold zb2 z1z
  generalize z0d k b = nm at *
  obtain ⟨tx, n0, ns, e⟩ := nm
  generalize z0w b.height = rw0 at *
  simp only at *
  by_cases hc : zu l = 0
  rotate_left
  ·repeat' (first | refine dq1 ?_ | refine dqc ?_ | refine dqm ?_ | refine dqK rfl (a1) ?_ | exact z4 rfl rfl | ((first | refine tR ?_ ?_ | refine tB ?_ ?_ | refine tC ?_ ?_ | refine tN ?_ ?_ | refine tF ?_ ?_ | refine tG ?_ ?_ | refine tP ?_ ?_ | refine tQ ?_ ?_ | refine tA ?_ ?_ | refine tO ?_ ?_ | refine tU ?_ ?_ | refine tV ?_ ?_) <;> intro h) | refine dqT ?_ | refine dqF ?_ | refine z6 rfl ?_ | refine z5 rfl ?_ | refine z8 ?_ | refine z9 ?_)
   all_goals (exfalso; omega)
  by_cases he : e = 0
  rotate_left
  ·repeat' (first | refine dq1 ?_ | refine dqc ?_ | refine dqm ?_ | refine dqK rfl (a1) ?_ | refine dqK rfl (a2) ?_ | exact z4 rfl rfl | ((first | refine tR ?_ ?_ | refine tB ?_ ?_ | refine tC ?_ ?_ | refine tN ?_ ?_ | refine tF ?_ ?_ | refine tG ?_ ?_ | refine tP ?_ ?_ | refine tQ ?_ ?_ | refine tA ?_ ?_ | refine tO ?_ ?_ | refine tU ?_ ?_ | refine tV ?_ ?_) <;> intro h) | refine dqT ?_ | refine dqF ?_ | refine z6 rfl ?_ | refine z5 rfl ?_ | refine z8 ?_ | refine z9 ?_)
   all_goals (exfalso; omega)
  obtain ⟨hb, hnl⟩ := hnm he
  have ok := z2k hb
  have hl4 := ok.len
  have hl1 := ok.some
  subst he
  repeat' (first | refine dq1 ?_ | refine dqc ?_ | refine dqm ?_ | refine dqK rfl (a1) ?_ | refine dqK rfl (a2) ?_ | refine dqK rfl (a3) ?_ | refine z7 (z082 rfl (by omega)) ?_ | exact z4 rfl rfl | ((first | refine tR ?_ ?_ | refine tB ?_ ?_ | refine tC ?_ ?_ | refine tN ?_ ?_ | refine tF ?_ ?_ | refine tG ?_ ?_ | refine tP ?_ ?_ | refine tQ ?_ ?_ | refine tA ?_ ?_ | refine tO ?_ ?_ | refine tU ?_ ?_ | refine tV ?_ ?_) <;> intro h) | refine dqT ?_ | refine dqF ?_ | refine z6 rfl ?_ | refine z5 rfl ?_ | refine z8 ?_ | refine z9 ?_)
  have hdl : (b.txs.drop 1).length = b.txs.length - 1 := by simp
  (refine z09 (fun (a : List Coin × List Undo × Int) k => [.l 6 (a.1.map zg), .l 6 [], .l 1 (a.2.1.map z6v), I 0, I a.2.2, I (k + 1)]) (fun (a : List Coin × List Undo × Int) k (r : List Tx) => z4q b ns a.1 a.2.1 a.2.2 (k + 1) r) (fun a k => a.2.1.length = b.txs.length ∧ -(10000000000 * ((k : Int) + 1)) ≤ a.2.2 ∧ a.2.2 ≤ 10000000000 * ((k : Int) + 1)) (l, List.replicate b.txs.length ⟨[]⟩, rw0) (b.txs.drop 1) ?_ ?_ ?_ ?_ ?_; rfl; exact ⟨by simp, by simp only; omega, by simp only; omega⟩; omega)
  ·rintro ⟨l, us, most⟩ i x r hx hd hk ⟨hu, m1, m2⟩ again hag
   simp only at hu m1 m2 hag ⊢
   have hx' : b.txs[((i : Int) + 1).toNat]? = some x := by
    rw [show ((i : Int) + 1).toNat = 1 + i by omega, ← List.getElem?_drop]; exact hx
   have hn' : ns[((i : Int) + 1).toNat]? = some (ns.getD (i + 1) 0) := by
    rw [show ((i : Int) + 1).toNat = i + 1 by omega]; exact z3i 0 (by omega)
   have hu' : us[i + 1]? = some (us.getD (i + 1) ⟨[]⟩) := z3i _ (by omega)
   rw [z4q]
   have a4 := zek l x (ns.getD (i + 1) 0) b.height
   have hfee := z05h (l := l) (t := x) (nm := ns.getD (i + 1) 0) (h := b.height)
   generalize ns.getD (i + 1) 0 = nm at *
   generalize us.getD (i + 1) ⟨[]⟩ = u0 at *
   generalize z04 l x nm b.height = q at *
   obtain ⟨l2, sp, f⟩ := q
   simp only at a4 hfee ⊢
   by_cases hf : f = 0
   ·obtain ⟨hd1, hd2, hd3⟩ := hfee hf
    subst hf
    rw [if_neg (fun h => h rfl)]
    have a5 := zc5 x sp hd1
    have hs1 : (us.set (i + 1) (⟨sp⟩ : Undo))[((i : Int) + 1).toNat]? = some ⟨sp⟩ := by
     rw [show ((i : Int) + 1).toNat = i + 1 by omega]; exact List.getElem?_set_self (by omega)
    have hsl : (us.set (i + 1) (⟨sp⟩ : Undo)).length = us.length := List.length_set ..
    generalize z23 x sp = fe at *
    repeat' (first | refine dq1 ?_ | refine dqc ?_ | refine dqm ?_ | refine dqK rfl (a4) ?_ | refine dqK rfl (a5) ?_ | refine z7 (zlg (n := i + 1) (x := u0) (y := ⟨sp⟩) (by omega) rfl rfl rfl (by omega) (Nat.le_refl _) hu' rfl) ?_ | exact z4 rfl rfl | ((first | refine tR ?_ ?_ | refine tB ?_ ?_ | refine tC ?_ ?_ | refine tN ?_ ?_ | refine tF ?_ ?_ | refine tG ?_ ?_ | refine tP ?_ ?_ | refine tQ ?_ ?_ | refine tA ?_ ?_ | refine tO ?_ ?_ | refine tU ?_ ?_ | refine tV ?_ ?_) <;> intro h) | refine dqT ?_ | refine dqF ?_ | refine z6 rfl ?_ | refine z5 rfl ?_ | refine z8 ?_ | refine z9 ?_)
    exact ze rfl rfl (hag (l2, us.set (i + 1) ⟨sp⟩, most + fe) ⟨by simpa using hu, by simp only; omega, by simp only; omega⟩)
   ·rw [if_pos hf]
    repeat' (first | refine dq1 ?_ | refine dqc ?_ | refine dqm ?_ | refine dqK rfl (a4) ?_ | refine z7 (zlg (n := i + 1) (x := u0) (y := ⟨sp⟩) (by omega) rfl rfl rfl (by omega) (Nat.le_refl _) hu' rfl) ?_ | exact z4 rfl rfl | ((first | refine tR ?_ ?_ | refine tB ?_ ?_ | refine tC ?_ ?_ | refine tN ?_ ?_ | refine tF ?_ ?_ | refine tG ?_ ?_ | refine tP ?_ ?_ | refine tQ ?_ ?_ | refine tA ?_ ?_ | refine tO ?_ ?_ | refine tU ?_ ?_ | refine tV ?_ ?_) <;> intro h) | refine dqT ?_ | refine dqF ?_ | refine z6 rfl ?_ | refine z5 rfl ?_ | refine z8 ?_ | refine z9 ?_)
  ·rintro ⟨l, us, most⟩ ⟨hu, m1, m2⟩ again
   simp only at hu m1 m2 ⊢
   have ht0 : b.txs[(0 : Int).toNat]? = some (b.txs.getD 0 zTx) := z3i _ hl1
   have hn0 : ns[(0 : Int).toNat]? = some (ns.getD 0 0) := z3i _ (by omega)
   have hu0 : us[0]? = some (us.getD 0 ⟨[]⟩) := z3i _ (by omega)
   have e0 : z4q b ns l us most ((b.txs.drop 1).length + 1) [] = za8 b ns l us most := by rw [z4q]
   rw [e0]
   unfold za8
   have hct := ok.each (b.txs.getD 0 zTx) (List.mem_of_getElem? ht0)
   obtain ⟨f1, f2⟩ := z0ad hct
   have a5 := zc5 (b.txs.getD 0 zTx) [] (z081 hct)
   have a4 := zek l (b.txs.getD 0 zTx) (ns.getD 0 0) b.height
   generalize b.txs.getD 0 zTx = t0 at *
   generalize ns.getD 0 0 = nm at *
   generalize us.getD 0 ⟨[]⟩ = u0 at *
   generalize z23 t0 [] = fe at *
   generalize z04 l t0 nm b.height = q at *
   obtain ⟨l2, sp, f⟩ := q
   simp only at a4 ⊢
   repeat' (first | refine dq1 ?_ | refine dqc ?_ | refine dqm ?_ | refine dqK rfl (a4) ?_ | refine dqK rfl (a5) ?_ | refine z7 (zlg (n := 0) (x := u0) (y := ⟨sp⟩) rfl rfl rfl rfl (by omega) (Nat.le_refl _) hu0 rfl) ?_ | exact z4 rfl rfl | ((first | refine tR ?_ ?_ | refine tB ?_ ?_ | refine tC ?_ ?_ | refine tN ?_ ?_ | refine tF ?_ ?_ | refine tG ?_ ?_ | refine tP ?_ ?_ | refine tQ ?_ ?_ | refine tA ?_ ?_ | refine tO ?_ ?_ | refine tU ?_ ?_ | refine tV ?_ ?_) <;> intro h) | refine dqT ?_ | refine dqF ?_ | refine z6 rfl ?_ | refine z5 rfl ?_ | refine z8 ?_ | refine z9 ?_)
attribute [local irreducible] z6r
theorem z05j : Meets Tryz.prog z4m 35 ⟨[.agg 1, .one, .agg 5, .one], [(false, [.pure]), (false, [.scal])], false⟩ := by
 refine zo (sp := (z0i [(8, z1f), (27, z6r), (72, z26)])) (sigs := z0q) (cut := []) (hints := [⟨13, [.t 1, .t 14, .r 8 86 6, .t 9, .t 15]⟩]) (fn := Tryz.f35) (t := zg3) (by kernel_rfl) (by kernel_rfl) (by kernel_rfl) ?_ ?_
 ·exact (z07 (L := [(8, z1f), (27, z6r), (72, z26)]) ⟨za rfl z92, za rfl z02c, za rfl ze4, trivial⟩)
 ·rintro ds rs hok h
  obtain ⟨⟨k, l, b, us⟩, hus, rfl, rfl⟩ := zq h
  clear h
  simp only at hus
  refine ⟨⟨100, ?_⟩, z96 ⟨rfl, trivial⟩⟩
  show den _ _ zg3 [.l 1 (k.texts.map z24), .l 6 (l.map zg), I b.parent, I b.height, I b.work, I b.nonce, .l 3 (b.txs.map eTx), .l 1 (us.map z6v)] [] = ret (z8w k l b us)
  have a1 := z2e l
  have a2 := z8j k b
  have hnm := zeb (k := k) (b := b)
  unfold zg3 z8w
  generalize z0d k b = nm at *
  obtain ⟨tx, n0, ns, e⟩ := nm
  simp only at *
  by_cases hc : zu l = 0
  rotate_left
  ·repeat' (first | refine dq1 ?_ | refine dqc ?_ | refine dqm ?_ | refine dqK rfl (a1) ?_ | exact z4 rfl rfl | ((first | refine tR ?_ ?_ | refine tB ?_ ?_ | refine tC ?_ ?_ | refine tN ?_ ?_ | refine tF ?_ ?_ | refine tG ?_ ?_ | refine tP ?_ ?_ | refine tQ ?_ ?_ | refine tA ?_ ?_ | refine tO ?_ ?_ | refine tU ?_ ?_ | refine tV ?_ ?_) <;> intro h) | refine dqT ?_ | refine dqF ?_ | refine z6 rfl ?_ | refine z5 rfl ?_ | refine z8 ?_ | refine z9 ?_)
   all_goals (exfalso; omega)
  by_cases he : e = 0
  rotate_left
  ·repeat' (first | refine dq1 ?_ | refine dqc ?_ | refine dqm ?_ | refine dqK rfl (a1) ?_ | refine dqK rfl (a2) ?_ | exact z4 rfl rfl | ((first | refine tR ?_ ?_ | refine tB ?_ ?_ | refine tC ?_ ?_ | refine tN ?_ ?_ | refine tF ?_ ?_ | refine tG ?_ ?_ | refine tP ?_ ?_ | refine tQ ?_ ?_ | refine tA ?_ ?_ | refine tO ?_ ?_ | refine tU ?_ ?_ | refine tV ?_ ?_) <;> intro h) | refine dqT ?_ | refine dqF ?_ | refine z6 rfl ?_ | refine z5 rfl ?_ | refine z8 ?_ | refine z9 ?_)
   all_goals (exfalso; omega)
  obtain ⟨hb, hnl⟩ := hnm he
  have ok := z2k hb
  have hl4 := ok.len
  have hl1 := ok.some
  subst he
  by_cases hul : us.length = b.txs.length
  rotate_left
  ·repeat' (first | refine dq1 ?_ | refine dqc ?_ | refine dqm ?_ | refine dqK rfl (a1) ?_ | refine dqK rfl (a2) ?_ | exact z4 rfl rfl | ((first | refine tR ?_ ?_ | refine tB ?_ ?_ | refine tC ?_ ?_ | refine tN ?_ ?_ | refine tF ?_ ?_ | refine tG ?_ ?_ | refine tP ?_ ?_ | refine tQ ?_ ?_ | refine tA ?_ ?_ | refine tO ?_ ?_ | refine tU ?_ ?_ | refine tV ?_ ?_) <;> intro h) | refine dqT ?_ | refine dqF ?_ | refine z6 rfl ?_ | refine z5 rfl ?_ | refine z8 ?_ | refine z9 ?_)
   all_goals (exfalso; omega)
  have ht0 : b.txs[(0 : Int).toNat]? = some (b.txs.getD 0 zTx) := z3i _ hl1
  have hn0 : ns[(0 : Int).toNat]? = some (ns.getD 0 0) := z3i _ (by omega)
  have hu0 : us[(0 : Int).toNat]? = some (us.getD 0 ⟨[]⟩) := z3i _ (by omega)
  have a3 := zcw l (b.txs.getD 0 zTx) (ns.getD 0 0) (us.getD 0 ⟨[]⟩).spent (zw8 hus 0)
  generalize hT : b.txs.getD 0 zTx = t0 at *
  generalize ns.getD 0 0 = nm at *
  generalize us.getD 0 ⟨[]⟩ = u0 at *
  generalize z19 l t0 nm u0.spent = q at *
  obtain ⟨l1, f⟩ := q
  simp only at a3 ⊢
  by_cases hf : f = 0
  rotate_left
  ·repeat' (first | refine dq1 ?_ | refine dqc ?_ | refine dqm ?_ | refine dqK rfl (a1) ?_ | refine dqK rfl (a2) ?_ | refine dqK rfl (a3) ?_ | exact z4 rfl rfl | ((first | refine tR ?_ ?_ | refine tB ?_ ?_ | refine tC ?_ ?_ | refine tN ?_ ?_ | refine tF ?_ ?_ | refine tG ?_ ?_ | refine tP ?_ ?_ | refine tQ ?_ ?_ | refine tA ?_ ?_ | refine tO ?_ ?_ | refine tU ?_ ?_ | refine tV ?_ ?_) <;> intro h) | refine dqT ?_ | refine dqF ?_ | refine z6 rfl ?_ | refine z5 rfl ?_ | refine z8 ?_ | refine z9 ?_)
   all_goals (exfalso; omega)
  subst hf
  repeat' (first | refine dq1 ?_ | refine dqc ?_ | refine dqm ?_ | refine dqK rfl (a1) ?_ | refine dqK rfl (a2) ?_ | refine dqK rfl (a3) ?_ | exact z4 rfl rfl | ((first | refine tR ?_ ?_ | refine tB ?_ ?_ | refine tC ?_ ?_ | refine tN ?_ ?_ | refine tF ?_ ?_ | refine tG ?_ ?_ | refine tP ?_ ?_ | refine tQ ?_ ?_ | refine tA ?_ ?_ | refine tO ?_ ?_ | refine tU ?_ ?_ | refine tV ?_ ?_) <;> intro h) | refine dqT ?_ | refine dqF ?_ | refine z6 rfl ?_ | refine z5 rfl ?_ | refine z8 ?_ | refine z9 ?_)
  (refine z083 (fun (l : List Coin) k => [.l 6 (l.map zg), I 0, .l 6 [], I 0, I k]) (fun (l : List Coin) i => zbp b ns us l i) (fun _ _ => True) l1 (b.txs.length - 1) ?_ ?_ ?_ ?_ ?_; exact z05i rfl (by omega); exact trivial; omega)
  ·rintro l i hi - again hag
   have hti : b.txs[((i : Int) + 1).toNat]? = some (b.txs.getD (i + 1) zTx) := by
    rw [show ((i : Int) + 1).toNat = i + 1 by omega]; exact z3i _ (by omega)
   have hni : ns[((i : Int) + 1).toNat]? = some (ns.getD (i + 1) 0) := by
    rw [show ((i : Int) + 1).toNat = i + 1 by omega]; exact z3i _ (by omega)
   have hui : us[((i : Int) + 1).toNat]? = some (us.getD (i + 1) ⟨[]⟩) := by
    rw [show ((i : Int) + 1).toNat = i + 1 by omega]; exact z3i _ (by omega)
   have a4 := zcw l (b.txs.getD (i + 1) zTx) (ns.getD (i + 1) 0) (us.getD (i + 1) ⟨[]⟩).spent (zw8 hus (i + 1))
   rw [zbp]
   generalize b.txs.getD (i + 1) zTx = ti at *
   generalize ns.getD (i + 1) 0 = ni at *
   generalize us.getD (i + 1) ⟨[]⟩ = ui at *
   generalize z19 l ti ni ui.spent = q at *
   obtain ⟨l2, f⟩ := q
   simp only at a4 ⊢
   by_cases hf : f = 0
   ·subst hf
    rw [if_neg (fun h => h rfl)]
    have hag' := hag l2 trivial
    rw [show ((i : Nat) : Int) = (i : Int) + 1 - 1 by omega] at hag'
    repeat' (first | refine dq1 ?_ | refine dqc ?_ | refine dqm ?_ | refine dqK rfl (a4) ?_ | exact z4 rfl rfl | ((first | refine tR ?_ ?_ | refine tB ?_ ?_ | refine tC ?_ ?_ | refine tN ?_ ?_ | refine tF ?_ ?_ | refine tG ?_ ?_ | refine tP ?_ ?_ | refine tQ ?_ ?_ | refine tA ?_ ?_ | refine tO ?_ ?_ | refine tU ?_ ?_ | refine tV ?_ ?_) <;> intro h) | refine dqT ?_ | refine dqF ?_ | refine z6 rfl ?_ | refine z5 rfl ?_ | refine z8 ?_ | refine z9 ?_)
    exact ze rfl rfl hag'
   ·rw [if_pos hf]
    repeat' (first | refine dq1 ?_ | refine dqc ?_ | refine dqm ?_ | refine dqK rfl (a4) ?_ | exact z4 rfl rfl | ((first | refine tR ?_ ?_ | refine tB ?_ ?_ | refine tC ?_ ?_ | refine tN ?_ ?_ | refine tF ?_ ?_ | refine tG ?_ ?_ | refine tP ?_ ?_ | refine tQ ?_ ?_ | refine tA ?_ ?_ | refine tO ?_ ?_ | refine tU ?_ ?_ | refine tV ?_ ?_) <;> intro h) | refine dqT ?_ | refine dqF ?_ | refine z6 rfl ?_ | refine z5 rfl ?_ | refine z8 ?_ | refine z9 ?_)
  ·rintro l - again
   rw [zbp]
   repeat' (first | refine dq1 ?_ | refine dqc ?_ | refine dqm ?_ | exact z4 rfl rfl | ((first | refine tR ?_ ?_ | refine tB ?_ ?_ | refine tC ?_ ?_ | refine tN ?_ ?_ | refine tF ?_ ?_ | refine tG ?_ ?_ | refine tP ?_ ?_ | refine tQ ?_ ?_ | refine tA ?_ ?_ | refine tO ?_ ?_ | refine tU ?_ ?_ | refine tV ?_ ?_) <;> intro h) | refine dqT ?_ | refine dqF ?_ | refine z6 rfl ?_ | refine z5 rfl ?_ | refine z8 ?_ | refine z9 ?_)
end
section
open Go.RowKit
open Go.Lib (itoa)
set_option maxRecDepth 100000
set_option maxHeartbeats 4000000
section
variable {sp : Nat → zd} {E : Env}
theorem zhy {a : Atom} {x : List UInt8} {lo : Atom} {m : Int} (ha : a.val E = some (.s x)) (hl : lo.val E = some (I m)) (h0 : 0 ≤ m) (h1 : m ≤ x.length) : denX sp E (.ssub a (some lo) none) = some (.s (x.drop m.toNat)) := by
 have hb : bndI E 0 (some lo) = some m := by show asI (lo.val E) = some m; rw [hl]; rfl
 have := z005 (sp := sp) (lo := some lo) (hi := none) (m := m) (n := (x.length : Int)) ha hb rfl h0 h1 (by omega)
 rw [this]
 simp
theorem z084 {a : Atom} {x : List UInt8} {hi : Atom} {n : Int} (ha : a.val E = some (.s x)) (hh : hi.val E = some (I n)) (h0 : 0 ≤ n) (h1 : n ≤ x.length) : denX sp E (.ssub a none (some hi)) = some (.s (x.take n.toNat)) := by
 have hb : bndI E (x.length : Int) (some hi) = some n := by show asI (hi.val E) = some n; rw [hh]; rfl
 have := z005 (sp := sp) (lo := none) (hi := some hi) (m := 0) (n := n) ha rfl hb (by omega) h0 h1
 rw [this]
 simp
end
theorem zzc {f : Nat} {s x : List UInt8} {r : List (List UInt8)} (h : x :: r = z1y f s) : s ≠ [] ∧ x = z56 s ∧ ∃ g, f = g + 1 ∧ r = z1y g (s.drop x.length) := by
 cases f with
 | zero => cases h
 | succ f =>
  unfold z1y at h
  by_cases hs : s = []
  ·rw [if_pos hs] at h; cases h
  ·rw [if_neg hs] at h
   injection h with h1 h2
   exact ⟨hs, h1, f, rfl, h1 ▸ h2⟩
theorem z02d {f : Nat} {s : List UInt8} (h : [] = z1y f s) (hf : s.length ≤ f) : s = [] := by
 cases f with
 | zero => exact List.eq_nil_of_length_eq_zero (by omega)
 | succ f =>
  unfold z1y at h
  by_cases hs : s = []
  ·exact hs
  ·rw [if_neg hs] at h; cases h
theorem z085 {x : List UInt8} (h : (z0k x).2.is = true) : (z2v x).2 = false := by unfold z2v; rw [h]; rfl
theorem z0ae {x : List UInt8} (h : (z0k x).2.is = false) : z2v x = ((z0k x).1, decide (itoa (z0k x).1 = x)) := by unfold z2v; rw [h]; rfl
attribute [local irreducible] den denX z0y z1h
attribute [local irreducible] z0o spD zy z0k z1v zp z1y z32 z56 itoa
noncomputable def z6y : zd := spD (fun s : List UInt8 => s.length ≤ 1000000000) fun s => z18 s
theorem zhz (s : List UInt8) (h : s.length ≤ 1000000000) : z6y [.s s] = some [I (z18 s).1.1, I (z18 s).1.2.1, I (z18 s).1.2.2.1, I (z18 s).1.2.2.2, .b (z18 s).2] := zm (p := fun s : List UInt8 => s.length ≤ 1000000000) (f := fun s : List UInt8 => z18 s) s h
def zlr : T :=
 .lets [.sel [.v 16, .v 10, .v 10, .v 10] (.v 9), .sel [.v 11, .v 16, .v 11, .v 11] (.v 9), .sel [.v 12, .v 12, .v 16, .v 12] (.v 9), .sel [.v 13, .v 13, .v 13, .v 16] (.v 9)] []
 (.lets [.bin .add (.v 9) (.c (.i .i64 1))] [] (.again 0 [.v 8, .v 25, .v 21, .v 22, .v 23, .v 24]))
def zls : T :=
 .lets [.bin .neq (.v 19) (.v 15)] [] (.ite (.v 20) (.ret [.v 10, .v 11, .v 12, .v 13, .c (.b false)]) (.lets [] [.sel [.c (.b true), .c (.b true), .c (.b true), .c (.b true)] (.v
 9)] zlr))
def zlt : T :=
 .lets [.call 42 [.v 15] 0, .call 42 [.v 15] 1] [] (.lets [.ise true (.v 17)] [] (.ite (.v 18) (.ret [.v 10, .v 11, .v 12, .v 13, .c (.b false)]) (.lets [.call 37 [.v 16] 0] []
 zls)))
def zlu : T :=
 .lets [.bin .lss (.v 9) (.v 7)] [] (.ite (.v 14) (.lets [] [.inr 1 (.v 6) (.v 9)] (.lets [.idx (.v 6) (.v 9) 0] [] zlt)) (.ret [.v 10, .v 11, .v 12, .v 13, .c (.b
 true)]))
def zlv : T :=
 .lets [.sub 1 (.v 1) (some (.c (.i .i64 1))) none] [] (.lets [.len (.v 6)] [] (.loop [.c (.b false), .c (.i .i64 0), .c (.i .i64 0), .c (.i .i64 0), .c (.i .i64 0), .c (.i .i64 0)]
 zlu))
def zlw : T :=
 .lets [.bin .neq (.v 4) (.c (.s [98, 108, 111, 99, 107]))] [] (.ite (.v 5) (.ret [.c (.i .i64 0), .c (.i .i64 0), .c (.i .i64 0), .c (.i .i64 0), .c (.b false)]) zlv)
def zlx : T :=
 .ite (.v 3) (.ret [.c (.i .i64 0), .c (.i .i64 0), .c (.i .i64 0), .c (.i .i64 0), .c (.b false)]) (.lets [] [.inr 1 (.v 1) (.c (.i .i64 0))] (.lets [.idx (.v 1) (.c (.i .i64 0)) 0]
 [] zlw))
def zb3 : T :=
 .lets [.call 41 [.v 0, .c (.s [32])] 0] [] (.lets [.len (.v 1)] [] (.lets [.bin .neq (.v 2) (.c (.i .i64 5))] [] zlx))
def zw9 : T :=
 .lets [.mk 3 [[.v 25, .v 26, .v 27]]] [] (.lets [.app 3 (.v 16) (.v 30)] [] (.lets [.slen (.v 24)] [] (.lets [.ssub (.v 18) (some (.v 32)) none] [] (.again 0 [.v 31, .v 17, .v
 33]))))
def zwa : T :=
 .lets [.bin .neq (.v 28) (.c (.i .i64 0))] [] (.ite (.v 29) (.ret [.c (.i .i64 0), .c (.i .i64 0), .c (.i .i64 0), .c (.i .i64 0), .c (.nil 3), .v 28]) zw9)
def zwb : T :=
 .lets [.bin .add (.v 21) (.c (.i .i64 2))] [] (.lets [.ssub (.v 18) none (some (.v 23))] [] (.lets [.call 61 [.v 24] 0, .call 61 [.v 24] 1, .call 61 [.v 24] 2, .call 61 [.v 24] 3]
 [] zwa))
def zwc : T :=
 .lets [.mk 3 [[.v 23, .v 24, .v 25]]] [] (.lets [.app 3 (.v 16) (.v 28)] [] (.lets [.slen (.v 18)] [] (.lets [.ssub (.v 18) (some (.v 30)) none] [] (.again 0 [.v 29, .v 17, .v
 31]))))
def zwd : T :=
 .lets [.bin .neq (.v 26) (.c (.i .i64 0))] [] (.ite (.v 27) (.ret [.c (.i .i64 0), .c (.i .i64 0), .c (.i .i64 0), .c (.i .i64 0), .c (.nil 3), .v 26]) zwc)
def zwe : T :=
 .lets [.bin .geq (.v 21) (.c (.i .i64 0))] [] (.ite (.v 22) zwb (.lets [.call 61 [.v 18] 0, .call 61 [.v 18] 1, .call 61 [.v 18] 2, .call 61 [.v 18] 3] [] zwd))
def zwf : T :=
 .ite (.v 21) (.ret [.c (.i .i64 0), .c (.i .i64 0), .c (.i .i64 0), .c (.i .i64 0), .c (.nil 3), .v 20]) (.ret [.v 12, .v 13, .v 14, .v 15, .v 16, .c (.i .i64 0)])
def zwg : T :=
 .ite (.v 19) (.lets [.ssub (.v 18) (some (.c (.i .i64 1))) none] [] (.lets [.call 50 [.v 20, .c (.s [10, 116, 120, 32])] 0] [] zwe)) (.lets [.call 71 [.v 12, .v 13, .v 14,
 .v 15, .v 16] 0] [] (.lets [.bin .neq (.v 20) (.c (.i .i64 0))] [] zwf))
def zwh : T :=
 .lets [] [.sel [.c (.b true), .c (.b true), .c (.b true), .c (.b true)] (.c (.i .i64 3))] (.lets [.sel [.v 6, .v 7, .v 8, .v 9] (.c (.i .i64 3))] [] (.loop [.c (.nil 3), .c (.i .i64
 0), .v 4] (.lets [.bin .neq (.v 18) (.c (.s []))] [] zwg)))
def zwi : T :=
 .lets [] [.sel [.c (.b true), .c (.b true), .c (.b true), .c (.b true)] (.c (.i .i64 2))] (.lets [.sel [.v 6, .v 7, .v 8, .v 9] (.c (.i .i64 2))] [] zwh)
def zpg : T :=
 .lets [] [.sel [.c (.b true), .c (.b true), .c (.b true), .c (.b true)] (.c (.i .i64 1))] (.lets [.sel [.v 6, .v 7, .v 8, .v 9] (.c (.i .i64 1))] [] zwi)
def zph : T :=
 .lets [] [.sel [.c (.b true), .c (.b true), .c (.b true), .c (.b true)] (.c (.i .i64 0))] (.lets [.sel [.v 6, .v 7, .v 8, .v 9] (.c (.i .i64 0))] [] zpg)
def zpi : T :=
 .lets [.call 92 [.v 3] 0, .call 92 [.v 3] 1, .call 92 [.v 3] 2, .call 92 [.v 3] 3, .call 92 [.v 3] 4] [] (.lets [.not (.v 10)] [] (.ite (.v 11) (.ret [.c (.i .i64 0), .c (.i .i64
 0), .c (.i .i64 0), .c (.i .i64 0), .c (.nil 3), .c (.i .i64 1)]) zph))
def zpj : T :=
 .ite (.v 2) (.ret [.c (.i .i64 0), .c (.i .i64 0), .c (.i .i64 0), .c (.i .i64 0), .c (.nil 3), .c (.i .i64 2)]) (.lets [.call 48 [.v 0, .c (.s [10])] 0, .call 48 [.v 0, .c (.s
 [10])] 1, .call 48 [.v 0, .c (.s [10])] 2] [] zpi)
def zec : T :=
 .lets [.slen (.v 0)] [] (.lets [.bin .gtr (.v 1) (.c (.i .i64 4000))] [] zpj)
attribute [local irreducible] z48 z3a z1r
theorem zwj : Meets Tryz.prog z6y 91 ⟨[.one], [(true, [.scal, .scal, .scal, .scal]), (false, [.scal])], true⟩ := by
 refine zo (sp := (z0i [(37, z3a), (41, z1r), (42, z48)])) (sigs := z0q) (cut := []) (hints := [⟨6, [.t 3, .t 25, .o 4]⟩]) (fn := Tryz.f91) (t := zb3) (by kernel_rfl) (by kernel_rfl) (by kernel_rfl) ?_ ?_
 ·exact (z07 (L := [(37, z3a), (41, z1r), (42, z48)]) ⟨za rfl zj9, za rfl zdy, za rfl zu2, trivial⟩)
 ·rintro ds rs hok h
  obtain ⟨s, hs, rfl, rfl⟩ := zq h
  clear h
  refine ⟨⟨10, ?_⟩, z96 ⟨rfl, rfl, rfl, rfl, rfl, trivial⟩⟩
  show den _ _ zb3 [.s s] [] = ret (z18 s)
  have a1 := z62 s 32 hs
  have hcl := (z7i 32 s).2
  have hne := zhf 32 s
  unfold zb3 z18
  generalize zy 32 s = w at *
  cases w with
  | nil => exact absurd rfl hne
  | cons w0 ws =>
  have hx : (w0 :: ws)[0]? = some w0 := rfl
  have hln : (w0 :: ws).length = ws.length + 1 := rfl
  simp only [List.headD_cons, List.drop_succ_cons, List.drop_zero]
  by_cases h5 : ws.length = 4
  rotate_left
  ·repeat' (first | refine dq1 ?_ | refine dqc ?_ | refine dqm ?_ | refine dqK rfl (a1) ?_ | exact z4 rfl rfl | ((first | refine tR ?_ ?_ | refine tB ?_ ?_ | refine tC ?_ ?_ | refine tN ?_ ?_ | refine tF ?_ ?_ | refine tG ?_ ?_ | refine tP ?_ ?_ | refine tQ ?_ ?_ | refine tA ?_ ?_ | refine tO ?_ ?_ | refine tU ?_ ?_ | refine tV ?_ ?_) <;> intro h) | refine dqT ?_ | refine dqF ?_ | refine z6 rfl ?_ | refine z5 rfl ?_ | refine z8 ?_ | refine z9 ?_)
   all_goals (exfalso; omega)
  by_cases hw : w0 = zaw
  rotate_left
  ·rw [if_neg (by omega), if_pos hw]
   repeat' (first | refine dq1 ?_ | refine dqc ?_ | refine dqm ?_ | refine dqK rfl (a1) ?_ | exact z4 rfl rfl | ((first | refine tR ?_ ?_ | refine tB ?_ ?_ | refine tC ?_ ?_ | refine tN ?_ ?_ | refine tF ?_ ?_ | refine tG ?_ ?_ | refine tP ?_ ?_ | refine tQ ?_ ?_ | refine tA ?_ ?_ | refine tO ?_ ?_ | refine tU ?_ ?_ | refine tV ?_ ?_) <;> intro h) | refine dqT ?_ | refine dqF ?_ | refine z6 rfl ?_ | refine z5 rfl ?_ | refine z8 ?_ | refine z9 ?_)
  subst hw
  rw [if_neg (by omega), if_neg (fun h => h rfl)]
  repeat' (first | refine dq1 ?_ | refine dqc ?_ | refine dqm ?_ | refine dqK rfl (a1) ?_ | refine z7 (zl7 rfl) ?_ | exact z4 rfl rfl | ((first | refine tR ?_ ?_ | refine tB ?_ ?_ | refine tC ?_ ?_ | refine tN ?_ ?_ | refine tF ?_ ?_ | refine tG ?_ ?_ | refine tP ?_ ?_ | refine tQ ?_ ?_ | refine tA ?_ ?_ | refine tO ?_ ?_ | refine tU ?_ ?_ | refine tV ?_ ?_) <;> intro h) | refine dqT ?_ | refine dqF ?_ | refine z6 rfl ?_ | refine z5 rfl ?_ | refine z8 ?_ | refine z9 ?_)
  (refine z09 (fun (o : z9i) k => [.b false, I k, I o.1, I o.2.1, I o.2.2.1, I o.2.2.2]) (fun (o : z9i) k (r : List (List UInt8)) => ze1 o k r) (fun _ _ => True) (0, 0, 0, 0) ws ?_ ?_ ?_ ?_ ?_; rfl; exact trivial; omega)
  ·rintro ⟨o0, o1, o2, o3⟩ k x r hx hd hk - again hag
   have hxl : x.length ≤ 1000000000 := by have := hcl x (List.mem_cons_of_mem _ (List.mem_of_getElem? hx)); omega
   have a2 := zdz x hxl
   rw [ze1]
   cases hi : (z0k x).2.is with
   | true =>
    rw [hi] at a2
    rw [if_neg (by rw [z085 hi]; decide)]
    repeat' (first | refine dq1 ?_ | refine dqc ?_ | refine dqm ?_ | refine dqK rfl (a2) ?_ | refine z7 (z6m rfl) ?_ | exact z4 rfl rfl | ((first | refine tR ?_ ?_ | refine tB ?_ ?_ | refine tC ?_ ?_ | refine tN ?_ ?_ | refine tF ?_ ?_ | refine tG ?_ ?_ | refine tP ?_ ?_ | refine tQ ?_ ?_ | refine tA ?_ ?_ | refine tO ?_ ?_ | refine tU ?_ ?_ | refine tV ?_ ?_) <;> intro h) | refine dqT ?_ | refine dqF ?_ | refine z6 rfl ?_ | refine z5 rfl ?_ | refine z8 ?_ | refine z9 ?_)
   | false =>
    rw [hi] at a2
    rw [z0ae hi]
    generalize (z0k x).1 = n at *
    have a3 := z9v n
    by_cases hit : itoa n = x
    ·rw [if_pos (by simpa using hit)]
     have hag' := hag (set4 (o0, o1, o2, o3) k n) trivial
     have hit' : ¬ itoa n ≠ x := fun h => h hit
     match k, hk, hx, hag' with
     | 0, _, hx, hag' =>
      repeat' (first | refine dq1 ?_ | refine dqc ?_ | refine dqm ?_ | refine dqK rfl (a2) ?_ | refine dqK rfl (a3) ?_ | refine z7 (z6m rfl) ?_ | refine dqs ?_ (z12 rfl rfl (by decide) rfl) | refine z41 (z01 (z12 rfl rfl (by decide) rfl) (z01 (z12 rfl rfl (by decide) rfl) (z01 (z12 rfl rfl (by decide) rfl) (z01 (z12 rfl rfl (by decide) rfl) z5g)))) ?_ rfl | exact z4 rfl rfl | ((first | refine tR ?_ ?_ | refine tB ?_ ?_ | refine tC ?_ ?_ | refine tN ?_ ?_ | refine tF ?_ ?_ | refine tG ?_ ?_ | refine tP ?_ ?_ | refine tQ ?_ ?_ | refine tA ?_ ?_ | refine tO ?_ ?_ | refine tU ?_ ?_ | refine tV ?_ ?_) <;> intro h) | refine dqT ?_ | refine dqF ?_ | refine z6 rfl ?_ | refine z5 rfl ?_ | refine z8 ?_ | refine z9 ?_)
      exact ze rfl rfl hag'
     | 1, _, hx, hag' =>
      repeat' (first | refine dq1 ?_ | refine dqc ?_ | refine dqm ?_ | refine dqK rfl (a2) ?_ | refine dqK rfl (a3) ?_ | refine z7 (z6m rfl) ?_ | refine dqs ?_ (z12 rfl rfl (by decide) rfl) | refine z41 (z01 (z12 rfl rfl (by decide) rfl) (z01 (z12 rfl rfl (by decide) rfl) (z01 (z12 rfl rfl (by decide) rfl) (z01 (z12 rfl rfl (by decide) rfl) z5g)))) ?_ rfl | exact z4 rfl rfl | ((first | refine tR ?_ ?_ | refine tB ?_ ?_ | refine tC ?_ ?_ | refine tN ?_ ?_ | refine tF ?_ ?_ | refine tG ?_ ?_ | refine tP ?_ ?_ | refine tQ ?_ ?_ | refine tA ?_ ?_ | refine tO ?_ ?_ | refine tU ?_ ?_ | refine tV ?_ ?_) <;> intro h) | refine dqT ?_ | refine dqF ?_ | refine z6 rfl ?_ | refine z5 rfl ?_ | refine z8 ?_ | refine z9 ?_)
      exact ze rfl rfl hag'
     | 2, _, hx, hag' =>
      repeat' (first | refine dq1 ?_ | refine dqc ?_ | refine dqm ?_ | refine dqK rfl (a2) ?_ | refine dqK rfl (a3) ?_ | refine z7 (z6m rfl) ?_ | refine dqs ?_ (z12 rfl rfl (by decide) rfl) | refine z41 (z01 (z12 rfl rfl (by decide) rfl) (z01 (z12 rfl rfl (by decide) rfl) (z01 (z12 rfl rfl (by decide) rfl) (z01 (z12 rfl rfl (by decide) rfl) z5g)))) ?_ rfl | exact z4 rfl rfl | ((first | refine tR ?_ ?_ | refine tB ?_ ?_ | refine tC ?_ ?_ | refine tN ?_ ?_ | refine tF ?_ ?_ | refine tG ?_ ?_ | refine tP ?_ ?_ | refine tQ ?_ ?_ | refine tA ?_ ?_ | refine tO ?_ ?_ | refine tU ?_ ?_ | refine tV ?_ ?_) <;> intro h) | refine dqT ?_ | refine dqF ?_ | refine z6 rfl ?_ | refine z5 rfl ?_ | refine z8 ?_ | refine z9 ?_)
      exact ze rfl rfl hag'
     | 3, _, hx, hag' =>
      repeat' (first | refine dq1 ?_ | refine dqc ?_ | refine dqm ?_ | refine dqK rfl (a2) ?_ | refine dqK rfl (a3) ?_ | refine z7 (z6m rfl) ?_ | refine dqs ?_ (z12 rfl rfl (by decide) rfl) | refine z41 (z01 (z12 rfl rfl (by decide) rfl) (z01 (z12 rfl rfl (by decide) rfl) (z01 (z12 rfl rfl (by decide) rfl) (z01 (z12 rfl rfl (by decide) rfl) z5g)))) ?_ rfl | exact z4 rfl rfl | ((first | refine tR ?_ ?_ | refine tB ?_ ?_ | refine tC ?_ ?_ | refine tN ?_ ?_ | refine tF ?_ ?_ | refine tG ?_ ?_ | refine tP ?_ ?_ | refine tQ ?_ ?_ | refine tA ?_ ?_ | refine tO ?_ ?_ | refine tU ?_ ?_ | refine tV ?_ ?_) <;> intro h) | refine dqT ?_ | refine dqF ?_ | refine z6 rfl ?_ | refine z5 rfl ?_ | refine z8 ?_ | refine z9 ?_)
      exact ze rfl rfl hag'
     | k + 4, hk, _, _ => exact absurd hk (by omega)
    ·rw [if_neg (by simpa using hit)]
     repeat' (first | refine dq1 ?_ | refine dqc ?_ | refine dqm ?_ | refine dqK rfl (a2) ?_ | refine dqK rfl (a3) ?_ | refine z7 (z6m rfl) ?_ | exact z4 rfl rfl | ((first | refine tR ?_ ?_ | refine tB ?_ ?_ | refine tC ?_ ?_ | refine tN ?_ ?_ | refine tF ?_ ?_ | refine tG ?_ ?_ | refine tP ?_ ?_ | refine tQ ?_ ?_ | refine tA ?_ ?_ | refine tO ?_ ?_ | refine tU ?_ ?_ | refine tV ?_ ?_) <;> intro h) | refine dqT ?_ | refine dqF ?_ | refine z6 rfl ?_ | refine z5 rfl ?_ | refine z8 ?_ | refine z9 ?_)
  ·rintro ⟨o0, o1, o2, o3⟩ - again
   rw [ze1]
   repeat' (first | refine dq1 ?_ | refine dqc ?_ | refine dqm ?_ | exact z4 rfl rfl | ((first | refine tR ?_ ?_ | refine tB ?_ ?_ | refine tC ?_ ?_ | refine tN ?_ ?_ | refine tF ?_ ?_ | refine tG ?_ ?_ | refine tP ?_ ?_ | refine tQ ?_ ?_ | refine tA ?_ ?_ | refine tO ?_ ?_ | refine tU ?_ ?_ | refine tV ?_ ?_) <;> intro h) | refine dqT ?_ | refine dqF ?_ | refine z6 rfl ?_ | refine z5 rfl ?_ | refine z8 ?_ | refine z9 ?_)
attribute [local irreducible] z18 z6p ze1
noncomputable def z6s : zd := spD (fun _ : List UInt8 => True) fun s => z64 s
theorem zly (s : List UInt8) : z6s [.s s] = some (z5d (z64 s).1 ++ [I (z64 s).2]) := zm (f := fun s : List UInt8 => z64 s) s trivial
theorem z02e (h : z9i) (l : List Tx) : z6p h l [] = zuo h l := by with_unfolding_all rfl
theorem zzd (h : z9i) (l : List Tx) (p : List UInt8) (r : List (List UInt8)) : z6p h l (p :: r) = if (z1v p).2 ≠ 0 then (zun, (z1v p).2) else z6p h (l ++ [(z1v p).1]) r := by with_unfolding_all rfl
attribute [local irreducible] z6q z4e z6l z63
theorem z02f : Meets Tryz.prog z6s 32 ⟨[.one], [(true, [.scal, .scal, .scal, .scal, .pure]), (false, [.scal])], false⟩ := by
 refine zbg (sp := (z0i [(48, z4e), (50, z6l), (61, z63), (71, z6q), (92, z6y)])) (sigs := z0q) (cut := []) (hints := [⟨8, [.n 9 4 660 59 3, .c 9 4 660, .t 3, .t 5]⟩]) (fns := [zbu 120 Tryz.f120 [] []]) (dep := 1) (pool := 600) (fn := Tryz.f32) (t := zec) (by kernel_rfl) (by kernel_rfl) (by kernel_rfl) ?_ ?_ ?_
 ·exact (z37 (fn := Tryz.f120) (by kernel_rfl) (by kernel_rfl) (by kernel_rfl) (by kernel_rfl) (by kernel_rfl) zde)
 ·exact (z07 (L := [(48, z4e), (50, z6l), (61, z63), (71, z6q), (92, z6y)]) ⟨za rfl zu3, za rfl z01x, za rfl z04q, za rfl z027, za rfl zwj, trivial⟩)
 ·rintro ds rs hok h
  obtain ⟨s, -, rfl, rfl⟩ := zq h
  clear h
  refine ⟨⟨s.length + 5000, ?_⟩, z96 ⟨rfl, rfl, rfl, rfl, rfl, trivial⟩⟩
  show den _ _ zec [.s s] [] = ret (z64 s)
  unfold zec z64
  repeat' (first | refine dq1 ?_ | refine dqc ?_ | refine dqm ?_ | exact z4 rfl rfl | ((first | refine tR ?_ ?_ | refine tB ?_ ?_ | refine tC ?_ ?_ | refine tN ?_ ?_ | refine tF ?_ ?_ | refine tG ?_ ?_ | refine tP ?_ ?_ | refine tQ ?_ ?_ | refine tA ?_ ?_ | refine tO ?_ ?_ | refine tU ?_ ?_ | refine tV ?_ ?_) <;> intro h) | refine dqT ?_ | refine dqF ?_ | refine z6 rfl ?_ | refine z5 rfl ?_ | refine z8 ?_ | refine z9 ?_)
  have hs4 : s.length ≤ 4000 := by omega
  have a1 := zfs s [10] (by omega)
  have hc : (Go.Lib.cut s [10]).1.length ≤ 4000 ∧ (Go.Lib.cut s [10]).2.1.length ≤ 4000 := by
   unfold Go.Lib.cut
   split
   ·simp; omega
   ·simp; omega
  have a2 := zhz (Go.Lib.cut s [10]).1 (by omega)
  generalize Go.Lib.cut s [10] = c at *
  obtain ⟨first, rest, fd⟩ := c
  simp only at *
  generalize z18 first = nb at *
  obtain ⟨⟨h0, h1, h2, h3⟩, ok⟩ := nb
  obtain ⟨hc1, hc2⟩ := hc
  obtain ⟨q1, q2, q3⟩ := zji rest.length rest (Nat.le_refl _)
  simp only at *
  cases ok with
  | false =>
   repeat' (first | refine dq1 ?_ | refine dqc ?_ | refine dqm ?_ | refine dqK rfl (a1) ?_ | refine dqK rfl (a2) ?_ | exact z4 rfl rfl | ((first | refine tR ?_ ?_ | refine tB ?_ ?_ | refine tC ?_ ?_ | refine tN ?_ ?_ | refine tF ?_ ?_ | refine tG ?_ ?_ | refine tP ?_ ?_ | refine tQ ?_ ?_ | refine tA ?_ ?_ | refine tO ?_ ?_ | refine tU ?_ ?_ | refine tV ?_ ?_) <;> intro h) | refine dqT ?_ | refine dqF ?_ | refine z6 rfl ?_ | refine z5 rfl ?_ | refine z8 ?_ | refine z9 ?_)
   all_goals contradiction
  | true =>
  repeat' (first | refine dq1 ?_ | refine dqc ?_ | refine dqm ?_ | refine dqK rfl (a1) ?_ | refine dqK rfl (a2) ?_ | refine dqs ?_ (z12 rfl rfl (by decide) rfl) | refine z7 (z12 rfl rfl (by decide) rfl) ?_ | exact z4 rfl rfl | ((first | refine tR ?_ ?_ | refine tB ?_ ?_ | refine tC ?_ ?_ | refine tN ?_ ?_ | refine tF ?_ ?_ | refine tG ?_ ?_ | refine tP ?_ ?_ | refine tQ ?_ ?_ | refine tA ?_ ?_ | refine tO ?_ ?_ | refine tU ?_ ?_ | refine tV ?_ ?_) <;> intro h) | refine dqT ?_ | refine dqF ?_ | refine z6 rfl ?_ | refine z5 rfl ?_ | refine z8 ?_ | refine z9 ?_)
  (refine z09 (fun (a : List Tx × List UInt8) k => [.l 3 (a.1.map eTx), I 0, .s a.2]) (fun (a : List Tx × List UInt8) _ (r : List (List UInt8)) => z6p (h0, h1, h2, h3) a.1 r) (fun a k => a.1.length = k ∧ a.2.length ≤ 4000 ∧ ∃ f, a.2.length ≤ f ∧ (z1y rest.length rest).drop k = z1y f a.2) ([], rest) (z1y rest.length rest) ?_ ?_ ?_ ?_ ?_; rfl; exact ⟨rfl, hc2, rest.length, Nat.le_refl _, rfl⟩; omega)
  ·rintro ⟨txs, s2⟩ k x r hx hd hk ⟨i1, i2, f, i3, i4⟩ again hag
   simp only at i1 i2 i3 i4 hag ⊢
   rw [hd] at i4
   obtain ⟨hne, hxp, g, rfl, hr⟩ := zzc i4
   have hpos : 0 < s2.length := List.length_pos_iff.2 hne
   have hxne := zup hne
   have hxpos : 0 < x.length := by rw [hxp]; exact List.length_pos_iff.2 hxne
   have hxle : x.length ≤ s2.length := by
    have := congrArg List.length (znk s2)
    rw [List.length_append, ← hxp] at this
    omega
   have a3 := zl2 (s2.drop (1 : Int).toNat) z1k (by rw [List.length_drop]; omega)
   have hK : Go.Lib.index (s2.drop (1 : Int).toNat) z1k = z32 s2 := by with_unfolding_all rfl
   rw [hK] at a3
   have a4 := zp9 x
   have hd1 : (z1y rest.length rest).drop (k + 1) = r := by rw [← List.drop_drop, hd]; rfl
   have hag' := fun t => hag (txs ++ [t], s2.drop ((x.length : Int)).toNat) ⟨by simp only [List.length_append, List.length_cons, List.length_nil]; omega, by simp only [List.length_drop]; omega, g, by simp only [List.length_drop]; omega, by rw [hd1, hr, Int.toNat_natCast]⟩
   clear hag
   rw [zzd]
   have hkq : k < 4001 := by omega
   generalize z1v x = q at *
   obtain ⟨t, e⟩ := q
   have hag' := hag' t
   by_cases h0k : 0 ≤ z32 s2
   ·have hlt := z04r hne h0k
    have hxt : s2.take (z32 s2 + 2).toNat = x := by rw [hxp]; with_unfolding_all exact (if_pos h0k).symm
    generalize z32 s2 = j at *
    simp only at a4 hag' ⊢
    repeat' (first | refine dq1 ?_ | refine dqc ?_ | refine dqm ?_ | refine dqK rfl (a3) ?_ | refine z7 (zhy rfl rfl (by omega) (by omega)) ?_ | exact z4 rfl rfl | ((first | refine tR ?_ ?_ | refine tB ?_ ?_ | refine tC ?_ ?_ | refine tN ?_ ?_ | refine tF ?_ ?_ | refine tG ?_ ?_ | refine tP ?_ ?_ | refine tQ ?_ ?_ | refine tA ?_ ?_ | refine tO ?_ ?_ | refine tU ?_ ?_ | refine tV ?_ ?_) <;> intro h) | refine dqT ?_ | refine dqF ?_ | refine z6 rfl ?_ | refine z5 rfl ?_ | refine z8 ?_ | refine z9 ?_)
    refine z7 (z084 rfl rfl (by omega) (by omega)) ?_ rfl
    rw [hxt]
    repeat' (first | refine dq1 ?_ | refine dqc ?_ | refine dqm ?_ | refine dqK rfl (a4) ?_ | refine z7 (z29 rfl rfl (by simp)) ?_ | refine z7 (z4s (x := t) (fun _ => rfl) rfl rfl (by omega)) ?_ | refine z7 (zhy rfl rfl (by omega) (by omega)) ?_ | exact z4 rfl rfl | ((first | refine tR ?_ ?_ | refine tB ?_ ?_ | refine tC ?_ ?_ | refine tN ?_ ?_ | refine tF ?_ ?_ | refine tG ?_ ?_ | refine tP ?_ ?_ | refine tQ ?_ ?_ | refine tA ?_ ?_ | refine tO ?_ ?_ | refine tU ?_ ?_ | refine tV ?_ ?_) <;> intro h) | refine dqT ?_ | refine dqF ?_ | refine z6 rfl ?_ | refine z5 rfl ?_ | refine z8 ?_ | refine z9 ?_)
    exact ze rfl rfl hag'
   ·have hxt : s2 = x := by rw [hxp]; with_unfolding_all exact (if_neg h0k).symm
    generalize z32 s2 = j at *
    subst hxt
    simp only at a4 hag' ⊢
    repeat' (first | refine dq1 ?_ | refine dqc ?_ | refine dqm ?_ | refine dqK rfl (a3) ?_ | refine dqK rfl (a4) ?_ | refine z7 (z29 rfl rfl (by simp)) ?_ | refine z7 (z4s (x := t) (fun _ => rfl) rfl rfl (by omega)) ?_ | refine z7 (zhy rfl rfl (by omega) (by omega)) ?_ | exact z4 rfl rfl | ((first | refine tR ?_ ?_ | refine tB ?_ ?_ | refine tC ?_ ?_ | refine tN ?_ ?_ | refine tF ?_ ?_ | refine tG ?_ ?_ | refine tP ?_ ?_ | refine tQ ?_ ?_ | refine tA ?_ ?_ | refine tO ?_ ?_ | refine tU ?_ ?_ | refine tV ?_ ?_) <;> intro h) | refine dqT ?_ | refine dqF ?_ | refine z6 rfl ?_ | refine z5 rfl ?_ | refine z8 ?_ | refine z9 ?_)
    exact ze rfl rfl hag'
  ·rintro ⟨txs, s2⟩ ⟨i1, i2, f, i3, i4⟩ again
   simp only at i1 i2 i3 i4 ⊢
   rw [List.drop_length] at i4
   obtain rfl := z02d i4 i3
   rw [z02e]
   unfold zuo
   have a5 := zlb ⟨h0, h1, h2, h3, txs⟩
   simp only at a5
   have hnn : ¬ ([] : List UInt8) ≠ [] := fun h => h rfl
   repeat' (first | refine dq1 ?_ | refine dqc ?_ | refine dqm ?_ | refine dqK rfl (a5) ?_ | exact z4 rfl rfl | ((first | refine tR ?_ ?_ | refine tB ?_ ?_ | refine tC ?_ ?_ | refine tN ?_ ?_ | refine tF ?_ ?_ | refine tG ?_ ?_ | refine tP ?_ ?_ | refine tQ ?_ ?_ | refine tA ?_ ?_ | refine tO ?_ ?_ | refine tU ?_ ?_ | refine tV ?_ ?_) <;> intro h) | refine dqT ?_ | refine dqF ?_ | refine z6 rfl ?_ | refine z5 rfl ?_ | refine z8 ?_ | refine z9 ?_)
end
section
open Go.RowKit
open Go.Lib (itoa)
set_option maxRecDepth 100000
set_option maxHeartbeats 4000000
theorem z0d2 (x y : In) : (if x.p = y.p then decide (x.key = y.key) else false) = decide (x = y) := by
 cases x; cases y
 by_cases h : (‹Point› : Point) = ‹Point› <;> simp only [In.mk.injEq, Bool.decide_and] <;> split <;> simp [*]
theorem z0d3 (t u : Tx) : (if t.height = u.height then if decide (t.ins = u.ins) = true then decide (t.outs = u.outs) else false else false) = decide (t = u) := by
 cases t; cases u
 simp only [Tx.mk.injEq, Bool.decide_and]
 split <;> rename_i h
 ·split <;> rename_i h2
  ·simp [h, h2]
  ·simp [h, h2]
 ·simp [h]
noncomputable def za1 : zd := spD (fun _ : In × In => True) fun x => decide (x.1 = x.2)
theorem zpk (x y : In) : za1 (eIn x ++ eIn y) = some [.b (decide (x = y))] := zm (f := fun x : In × In => decide (x.1 = x.2)) (x, y) trivial
noncomputable def zcx : zd := spD (fun _ : List In × List In => True) fun x => decide (x.1 = x.2)
theorem z02g (l m : List In) : zcx [.l 3 (l.map eIn), .l 3 (m.map eIn)] = some [.b (decide (l = m))] := zm (f := fun x : List In × List In => decide (x.1 = x.2)) (l, m) trivial
noncomputable def zed : zd := spD (fun _ : List Out × List Out => True) fun x => decide (x.1 = x.2)
theorem zze (l m : List Out) : zed [.l 2 (l.map z27), .l 2 (m.map z27)] = some [.b (decide (l = m))] := zm (f := fun x : List Out × List Out => decide (x.1 = x.2)) (l, m) trivial
noncomputable def z7k : zd := spD (fun _ : Tx × Tx => True) fun x => decide (x.1 = x.2)
theorem zwk (x y : Tx) : z7k (eTx x ++ eTx y) = some [.b (decide (x = y))] := zm (f := fun x : Tx × Tx => decide (x.1 = x.2)) (x, y) trivial
attribute [local irreducible] z0o spD z1j zf zl
attribute [local irreducible] den denX z0y z1h
def zg5 : T :=
 .lets [.eqs false [(.v 0, .v 3), (.v 1, .v 4)]] [] (.ite (.v 6) (.lets [.call 20 [.v 2, .v 5] 0] [] (.ret [.v 7])) (.ret [.c (.b false)]))
def z086 : T :=
 .lets [.call 65 [.v 9, .v 10, .v 11, .v 12, .v 13, .v 14] 0] [] (.lets [.not (.v 15)] [] (.ite (.v 16) (.ret [.c (.b false)]) (.lets [.bin .add (.v 7) (.c (.i .i64 1))] [] (.again 0
 [.v 6, .v 17]))))
def z087 : T :=
 .lets [.idx (.v 0) (.v 7) 0, .idx (.v 0) (.v 7) 1, .idx (.v 0) (.v 7) 2] [] (.lets [] [.inr 3 (.v 1) (.v 7)] (.lets [.idx (.v 1) (.v 7) 0, .idx (.v 1) (.v 7) 1, .idx (.v 1) (.v 7)
 2] [] z086))
def z088 : T :=
 .lets [.len (.v 0)] [] (.loop [.c (.b false), .c (.i .i64 0)] (.lets [.bin .lss (.v 7) (.v 5)] [] (.ite (.v 8) (.lets [] [.inr 3 (.v 0) (.v 7)] z087) (.ret [.c (.b true)]))))
def zwl : T :=
 .lets [.len (.v 0)] [] (.lets [.len (.v 1)] [] (.lets [.bin .neq (.v 2) (.v 3)] [] (.ite (.v 4) (.ret [.c (.b false)]) z088)))
def z05k : T :=
 .lets [.call 21 [.v 9, .v 10, .v 11, .v 12] 0] [] (.lets [.not (.v 13)] [] (.ite (.v 14) (.ret [.c (.b false)]) (.lets [.bin .add (.v 7) (.c (.i .i64 1))] [] (.again 0 [.v 6, .v
 15]))))
def z05l : T :=
 .lets [] [.inr 2 (.v 0) (.v 7)] (.lets [.idx (.v 0) (.v 7) 0, .idx (.v 0) (.v 7) 1] [] (.lets [] [.inr 2 (.v 1) (.v 7)] (.lets [.idx (.v 1) (.v 7) 0, .idx (.v 1) (.v 7) 1] []
 z05k)))
def z05m : T :=
 .ite (.v 4) (.ret [.c (.b false)]) (.lets [.len (.v 0)] [] (.loop [.c (.b false), .c (.i .i64 0)] (.lets [.bin .lss (.v 7) (.v 5)] [] (.ite (.v 8) z05l (.ret [.c (.b
 true)])))))
def zlz : T :=
 .lets [.len (.v 0)] [] (.lets [.len (.v 1)] [] (.lets [.bin .neq (.v 2) (.v 3)] [] z05m))
def zi0 : T :=
 .lets [.bin .eql (.v 0) (.v 3)] [] (.ite (.v 6) (.lets [.call 66 [.v 1, .v 4] 0] [] (.ite (.v 7) (.lets [.call 67 [.v 2, .v 5] 0] [] (.ret [.v 8])) (.ret [.c (.b false)]))) (.ret
 [.c (.b false)]))
attribute [local irreducible] z71
theorem z05n : Meets Tryz.prog za1 75 ⟨[.agg 3, .agg 3], [(false, [.scal])], true⟩ := by
 refine zo (sp := (z0i [(20, z71)])) (sigs := z0q) (cut := []) (hints := []) (fn := Tryz.f75) (t := zg5) (by kernel_rfl) (by kernel_rfl) (by kernel_rfl) ?_ ?_
 ·exact (z07 (L := [(20, z71)]) ⟨za rfl z00d, trivial⟩)
 ·rintro ds rs - h
  obtain ⟨⟨x, y⟩, -, rfl, rfl⟩ := zq h
  clear h
  refine ⟨⟨1, ?_⟩, z0c rfl⟩
  show den _ _ zg5 [I x.p.tx, I x.p.at_, .l 2 (x.key.map eOp), I y.p.tx, I y.p.at_, .l 2 (y.key.map eOp)] [] = ret (decide (x = y))
  rw [← z0d2]
  unfold zg5
  repeat' (first | refine dq1 ?_ | refine dqc ?_ | refine dqm ?_ | refine dqK rfl (zhb _ _) ?_ | exact z4 rfl rfl | ((first | refine tR ?_ ?_ | refine tB ?_ ?_ | refine tC ?_ ?_ | refine tN ?_ ?_ | refine tF ?_ ?_ | refine tG ?_ ?_ | refine tP ?_ ?_ | refine tQ ?_ ?_ | refine tA ?_ ?_ | refine tO ?_ ?_ | refine tU ?_ ?_ | refine tV ?_ ?_) <;> intro h) | refine dqT ?_ | refine dqF ?_ | refine z6 rfl ?_ | refine z5 rfl ?_ | refine z8 ?_ | refine z9 ?_)
theorem z0ce : Meets Tryz.prog zcx 74 ⟨[.one, .one, .clos 75 []], [(false, [.scal])], true⟩ := by
 refine zo (sp := (z0i [(65, za1)])) (sigs := z0q) (cut := []) (hints := [⟨4, [.t 6, .t 17]⟩]) (fn := Tryz.f74) (t := zwl) (by kernel_rfl) (by kernel_rfl) (by kernel_rfl) ?_ ?_
 ·exact (z07 (L := [(65, za1)]) ⟨za rfl z05n, trivial⟩)
 ·rintro ds rs hok h
  obtain ⟨⟨l, m⟩, -, rfl, rfl⟩ := zq h
  clear h
  have hll := ok_l (hok (.l 3 (l.map eIn)) (List.mem_cons_self ..))
  refine ⟨⟨l.length + 1, ?_⟩, z0c rfl⟩
  show den _ _ zwl [.l 3 (l.map eIn), .l 3 (m.map eIn)] [] = ret (decide (l = m))
  rw [zbo]
  unfold zwl
  repeat' (first | refine dq1 ?_ | refine dqc ?_ | refine dqm ?_ | exact z4 rfl rfl | ((first | refine tR ?_ ?_ | refine tB ?_ ?_ | refine tC ?_ ?_ | refine tN ?_ ?_ | refine tF ?_ ?_ | refine tG ?_ ?_ | refine tP ?_ ?_ | refine tQ ?_ ?_ | refine tA ?_ ?_ | refine tO ?_ ?_ | refine tU ?_ ?_ | refine tV ?_ ?_) <;> intro h) | refine dqT ?_ | refine dqF ?_ | refine z6 rfl ?_ | refine z5 rfl ?_ | refine z8 ?_ | refine z9 ?_)
  have hlm : l.length = m.length := by omega
  (refine z09 (fun (_ : Unit) k => [.b false, I k]) (fun (_ : Unit) k (r : List In) => decide (r = m.drop k)) (fun _ _ => True) () l ?_ ?_ ?_ ?_ ?_; rfl; exact trivial; first | exact Nat.lt_succ_self _ | omega)
  ·rintro _ k x r hx hd hk - again hag
   have hy : m[k]? = some (m[k]'(by omega)) := List.getElem?_eq_getElem (by omega)
   have hdy : m.drop k = m[k]'(by omega) :: m.drop (k + 1) := List.drop_eq_getElem_cons (by omega)
   rw [hdy]
   generalize m[k]'(by omega) = y at *
   have e : decide (x :: r = y :: m.drop (k + 1)) = if decide (x = y) = true then decide (r = m.drop (k + 1)) else false := by
    by_cases h : x = y
    ·simp [h]
    ·simp [h]
   rw [e]
   have hkm : k < m.length := by omega
   repeat' (first | refine dq1 ?_ | refine dqc ?_ | refine dqm ?_ | refine dqK rfl (zpk x y) ?_ | exact z4 rfl rfl | exact ze rfl rfl (hag () trivial) | exact ze rfl rfl (hag _ trivial) | exact ze rfl rfl (hag _ (by omega)) | exact ze rfl rfl (hag _ (by assumption)) | ((first | refine tR ?_ ?_ | refine tB ?_ ?_ | refine tC ?_ ?_ | refine tN ?_ ?_ | refine tF ?_ ?_ | refine tG ?_ ?_ | refine tP ?_ ?_ | refine tQ ?_ ?_ | refine tA ?_ ?_ | refine tO ?_ ?_ | refine tU ?_ ?_ | refine tV ?_ ?_) <;> intro h) | refine dqT ?_ | refine dqF ?_ | refine z6 rfl ?_ | refine z5 rfl ?_ | refine z8 ?_ | refine z9 ?_)
  ·rintro _ - again
   rw [hlm, List.drop_length]
   repeat' (first | refine dq1 ?_ | refine dqc ?_ | refine dqm ?_ | exact z4 rfl rfl | ((first | refine tR ?_ ?_ | refine tB ?_ ?_ | refine tC ?_ ?_ | refine tN ?_ ?_ | refine tF ?_ ?_ | refine tG ?_ ?_ | refine tP ?_ ?_ | refine tQ ?_ ?_ | refine tA ?_ ?_ | refine tO ?_ ?_ | refine tU ?_ ?_ | refine tV ?_ ?_) <;> intro h) | refine dqT ?_ | refine dqF ?_ | refine z6 rfl ?_ | refine z5 rfl ?_ | refine z8 ?_ | refine z9 ?_)
attribute [local irreducible] z2a
theorem z0af : Meets Tryz.prog zed 77 ⟨[.one, .one, .clos 46 []], [(false, [.scal])], true⟩ := by
 refine zo (sp := (z0i [(21, z2a)])) (sigs := z0q) (cut := []) (hints := [⟨4, [.t 6, .t 17]⟩]) (fn := Tryz.f77) (t := zlz) (by kernel_rfl) (by kernel_rfl) (by kernel_rfl) ?_ ?_
 ·exact (z07 (L := [(21, z2a)]) ⟨za rfl zc8, trivial⟩)
 ·rintro ds rs hok h
  obtain ⟨⟨l, m⟩, -, rfl, rfl⟩ := zq h
  clear h
  have hll := ok_l (hok (.l 2 (l.map z27)) (List.mem_cons_self ..))
  refine ⟨⟨l.length + 1, ?_⟩, z0c rfl⟩
  show den _ _ zlz [.l 2 (l.map z27), .l 2 (m.map z27)] [] = ret (decide (l = m))
  rw [zbo]
  unfold zlz
  repeat' (first | refine dq1 ?_ | refine dqc ?_ | refine dqm ?_ | exact z4 rfl rfl | ((first | refine tR ?_ ?_ | refine tB ?_ ?_ | refine tC ?_ ?_ | refine tN ?_ ?_ | refine tF ?_ ?_ | refine tG ?_ ?_ | refine tP ?_ ?_ | refine tQ ?_ ?_ | refine tA ?_ ?_ | refine tO ?_ ?_ | refine tU ?_ ?_ | refine tV ?_ ?_) <;> intro h) | refine dqT ?_ | refine dqF ?_ | refine z6 rfl ?_ | refine z5 rfl ?_ | refine z8 ?_ | refine z9 ?_)
  have hlm : l.length = m.length := by omega
  (refine z09 (fun (_ : Unit) k => [.b false, I k]) (fun (_ : Unit) k (r : List Out) => decide (r = m.drop k)) (fun _ _ => True) () l ?_ ?_ ?_ ?_ ?_; rfl; exact trivial; first | exact Nat.lt_succ_self _ | omega)
  ·rintro _ k x r hx hd hk - again hag
   have hy : m[k]? = some (m[k]'(by omega)) := List.getElem?_eq_getElem (by omega)
   have hdy : m.drop k = m[k]'(by omega) :: m.drop (k + 1) := List.drop_eq_getElem_cons (by omega)
   rw [hdy]
   generalize m[k]'(by omega) = y at *
   have e : decide (x :: r = y :: m.drop (k + 1)) = if decide (x = y) = true then decide (r = m.drop (k + 1)) else false := by
    by_cases h : x = y
    ·simp [h]
    ·simp [h]
   rw [e]
   have hkm : k < m.length := by omega
   repeat' (first | refine dq1 ?_ | refine dqc ?_ | refine dqm ?_ | refine dqK rfl (z88 x y) ?_ | exact z4 rfl rfl | exact ze rfl rfl (hag () trivial) | exact ze rfl rfl (hag _ trivial) | exact ze rfl rfl (hag _ (by omega)) | exact ze rfl rfl (hag _ (by assumption)) | ((first | refine tR ?_ ?_ | refine tB ?_ ?_ | refine tC ?_ ?_ | refine tN ?_ ?_ | refine tF ?_ ?_ | refine tG ?_ ?_ | refine tP ?_ ?_ | refine tQ ?_ ?_ | refine tA ?_ ?_ | refine tO ?_ ?_ | refine tU ?_ ?_ | refine tV ?_ ?_) <;> intro h) | refine dqT ?_ | refine dqF ?_ | refine z6 rfl ?_ | refine z5 rfl ?_ | refine z8 ?_ | refine z9 ?_)
  ·rintro _ - again
   rw [hlm, List.drop_length]
   repeat' (first | refine dq1 ?_ | refine dqc ?_ | refine dqm ?_ | exact z4 rfl rfl | ((first | refine tR ?_ ?_ | refine tB ?_ ?_ | refine tC ?_ ?_ | refine tN ?_ ?_ | refine tF ?_ ?_ | refine tG ?_ ?_ | refine tP ?_ ?_ | refine tQ ?_ ?_ | refine tA ?_ ?_ | refine tO ?_ ?_ | refine tU ?_ ?_ | refine tV ?_ ?_) <;> intro h) | refine dqT ?_ | refine dqF ?_ | refine z6 rfl ?_ | refine z5 rfl ?_ | refine z8 ?_ | refine z9 ?_)
attribute [local irreducible] zcx
theorem z089 : Meets Tryz.prog z7k 26 ⟨[.agg 3, .agg 3], [(false, [.scal])], true⟩ := by
 refine zo (sp := (z0i [(66, zcx), (67, zed)])) (sigs := z0q) (cut := []) (hints := []) (fn := Tryz.f26) (t := zi0) (by kernel_rfl) (by kernel_rfl) (by kernel_rfl) ?_ ?_
 ·exact (z07 (L := [(66, zcx), (67, zed)]) ⟨za rfl z0ce, za rfl z0af, trivial⟩)
 ·rintro ds rs - h
  obtain ⟨⟨x, y⟩, -, rfl, rfl⟩ := zq h
  clear h
  refine ⟨⟨1, ?_⟩, z0c rfl⟩
  show den _ _ zi0 [I x.height, .l 3 (x.ins.map eIn), .l 2 (x.outs.map z27), I y.height, .l 3 (y.ins.map eIn), .l 2 (y.outs.map z27)] [] = ret (decide (x = y))
  rw [← z0d3]
  unfold zi0
  repeat' (first | refine dq1 ?_ | refine dqc ?_ | refine dqm ?_ | refine dqK rfl (z02g _ _) ?_ | refine dqK rfl (zze _ _) ?_ | exact z4 rfl rfl | ((first | refine tR ?_ ?_ | refine tB ?_ ?_ | refine tC ?_ ?_ | refine tN ?_ ?_ | refine tF ?_ ?_ | refine tG ?_ ?_ | refine tP ?_ ?_ | refine tQ ?_ ?_ | refine tA ?_ ?_ | refine tO ?_ ?_ | refine tU ?_ ?_ | refine tV ?_ ?_) <;> intro h) | refine dqT ?_ | refine dqF ?_ | refine z6 rfl ?_ | refine z5 rfl ?_ | refine z8 ?_ | refine z9 ?_)
attribute [local irreducible] z1v z0m z63 z4l
end
section
open Go.RowKit
open Go.Lib (itoa)
set_option maxRecDepth 100000
set_option maxHeartbeats 4000000
def zm0 (k : Book) (t : Tree) (n : Int) : List Int × Int := if z0v k ≠ 0 then ([], z0v k) else z025 t n
def z00e (k : Book) (t : Tree) : List Coin → List Int → List Coin × Int
 | l, [] => (l, 0)
 | l, n :: r => if (z1z k l (zfv t n)).2.2 ≠ 0 then ([], (z1z k l (zfv t n)).2.2) else z00e k t (z1z k l (zfv t n)).1 r
def z0ag (k : Book) (t : Tree) (n : Int) : List Coin × Int := if (zm0 k t n).2 ≠ 0 then ([], (zm0 k t n).2) else z00e k t [] (zm0 k t n).1
def z08n : List Int → List Int → Nat
 | a :: x, b :: y => if a = b then z08n x y + 1 else 0
 | _, _ => 0
theorem zjr (n : Nat) : z2b (List.replicate n ⟨[]⟩) := fun u hu => by
 rw [(List.mem_replicate.1 hu).2]
 exact znt
theorem znu {us : List Undo} (h : z2b us) {s : List Coin} (hs : z1g s) (i : Nat) : z2b (us.set i ⟨s⟩) := fun u hu => by
 rcases List.mem_or_eq_of_mem_set hu with hu | rfl
 ·exact h u hu
 ·exact hs
theorem zhd {l : List Coin} {t : Tx} {nm h : Int} (h0 : (z04 l t nm h).2.2 = 0) : z1g (z04 l t nm h).2.1 := (za0 h0).choose_spec.short
theorem zg6 (b : Block) (ns : List Int) : ∀ (r : List Tx) (l : List Coin) (us : List Undo) (most : Int) (i : Nat), z2b us → z2b (z4q b ns l us most i r).2.1
 | [], l, us, most, i, h => by
  rw [z4q]
  unfold za8
  split
  ·exact fun u hu => by cases hu
  split
  ·exact fun u hu => by cases hu
  ·rename_i h1
   exact znu h (zhd (Decidable.not_not.1 h1)) 0
 | t :: r, l, us, most, i, h => by
  rw [z4q]
  split
  ·exact fun u hu => by cases hu
  ·rename_i h1
   exact zg6 b ns r _ _ _ _ (znu h (zhd (Decidable.not_not.1 h1)) i)
theorem zwm (k : Book) (l : List Coin) (b : Block) : z2b (z1z k l b).2.1 := by
 unfold z1z
 split
 ·exact fun u hu => by cases hu
 split
 ·exact fun u hu => by cases hu
 ·exact zg6 _ _ _ _ _ _ _ (zjr _)
section
variable {α : Type} {f : α → List Dt} {sp : Nat → zd} {E : Env}
end
attribute [local irreducible] den denX z0y z1h
attribute [local irreducible] z0o spD z1z z8w zfv z025 z0v z08n
noncomputable def z02h : zd := spD (fun _ : Book × Tree × Int => True) fun x => z0ag x.1 x.2.1 x.2.2
attribute [local irreducible] zuu zyl
attribute [local irreducible] z1s zuv
attribute [local irreducible] z02h
attribute [local irreducible] z04y
attribute [local irreducible] z4m z07t z04z z5q
end
section
open Go.RowKit
open Go.Lib (itoa)
set_option maxRecDepth 100000
set_option maxHeartbeats 4000000
attribute [local irreducible] den denX z0y z1h
theorem z0cf (a b : Block) : (if a.parent = b.parent then if a.height = b.height then if a.work = b.work then if a.nonce = b.nonce then decide (a.txs = b.txs) else false else false else false else false) = decide (a = b) := by
 cases a; cases b
 simp only [Block.mk.injEq, Bool.decide_and]
 split <;> rename_i h1 <;> simp only [h1, decide_true, decide_false, Bool.true_and, Bool.false_and]
 split <;> rename_i h2 <;> simp only [h2, decide_true, decide_false, Bool.true_and, Bool.false_and]
 split <;> rename_i h3 <;> simp only [h3, decide_true, decide_false, Bool.true_and, Bool.false_and]
 split <;> rename_i h4 <;> simp only [h4, decide_true, decide_false, Bool.true_and, Bool.false_and]
noncomputable def zgn : zd := spD (fun _ : List Tx × List Tx => True) fun x => decide (x.1 = x.2)
theorem z02i (l m : List Tx) : zgn [.l 3 (l.map eTx), .l 3 (m.map eTx)] = some [.b (decide (l = m))] := zm (f := fun x : List Tx × List Tx => decide (x.1 = x.2)) (l, m) trivial
noncomputable def z89 : zd := spD (fun _ : Block × Block => True) fun x => decide (x.1 = x.2)
theorem zpl (a b : Block) : z89 [I a.parent, I a.height, I a.work, I a.nonce, .l 3 (a.txs.map eTx), I b.parent, I b.height, I b.work, I b.nonce, .l 3 (b.txs.map eTx)] = some [.b (decide (a = b))] := zm (f := fun x : Block × Block => decide (x.1 = x.2)) (a, b) trivial
theorem zpm (x y : Tx) : z7k [I x.height, .l 3 (x.ins.map eIn), .l 2 (x.outs.map z27), I y.height, .l 3 (y.ins.map eIn), .l 2 (y.outs.map z27)] = some [.b (decide (x = y))] := zwk x y
attribute [local irreducible] z0o spD
def z08a : T :=
 .lets [.call 68 [.v 9, .v 10, .v 11, .v 12, .v 13, .v 14] 0] [] (.lets [.not (.v 15)] [] (.ite (.v 16) (.ret [.c (.b false)]) (.lets [.bin .add (.v 7) (.c (.i .i64 1))] [] (.again 0
 [.v 6, .v 17]))))
def z08b : T :=
 .lets [.idx (.v 0) (.v 7) 0, .idx (.v 0) (.v 7) 1, .idx (.v 0) (.v 7) 2] [] (.lets [] [.inr 3 (.v 1) (.v 7)] (.lets [.idx (.v 1) (.v 7) 0, .idx (.v 1) (.v 7) 1, .idx (.v 1) (.v 7)
 2] [] z08a))
def z08c : T :=
 .lets [.len (.v 0)] [] (.loop [.c (.b false), .c (.i .i64 0)] (.lets [.bin .lss (.v 7) (.v 5)] [] (.ite (.v 8) (.lets [] [.inr 3 (.v 0) (.v 7)] z08b) (.ret [.c (.b true)]))))
def zwn : T :=
 .lets [.len (.v 0)] [] (.lets [.len (.v 1)] [] (.lets [.bin .neq (.v 2) (.v 3)] [] (.ite (.v 4) (.ret [.c (.b false)]) z08c)))
def zzf : T :=
 .ite (.v 12) (.lets [.bin .eql (.v 3) (.v 8)] [] (.ite (.v 13) (.lets [.call 75 [.v 4, .v 9] 0] [] (.ret [.v 14])) (.ret [.c (.b false)]))) (.ret [.c (.b false)])
def zg7 : T :=
 .lets [.bin .eql (.v 0) (.v 5)] [] (.ite (.v 10) (.lets [.bin .eql (.v 1) (.v 6)] [] (.ite (.v 11) (.lets [.bin .eql (.v 2) (.v 7)] [] zzf) (.ret [.c (.b false)]))) (.ret
 [.c (.b false)]))
attribute [local irreducible] z7k
theorem z0cg : Meets Tryz.prog zgn 93 ⟨[.one, .one, .clos 26 []], [(false, [.scal])], true⟩ := by
 refine zo (sp := (z0i [(68, z7k)])) (sigs := z0q) (cut := []) (hints := [⟨4, [.t 6, .t 17]⟩]) (fn := Tryz.f93) (t := zwn) (by kernel_rfl) (by kernel_rfl) (by kernel_rfl) ?_ ?_
 ·exact (z07 (L := [(68, z7k)]) ⟨za rfl z089, trivial⟩)
 ·rintro ds rs hok h
  obtain ⟨⟨l, m⟩, -, rfl, rfl⟩ := zq h
  clear h
  have hll := ok_l (hok (.l 3 (l.map eTx)) (List.mem_cons_self ..))
  refine ⟨⟨l.length + 1, ?_⟩, z0c rfl⟩
  show den _ _ zwn [.l 3 (l.map eTx), .l 3 (m.map eTx)] [] = ret (decide (l = m))
  rw [zbo]
  unfold zwn
  repeat' (first | refine dq1 ?_ | refine dqc ?_ | refine dqm ?_ | exact z4 rfl rfl | ((first | refine tR ?_ ?_ | refine tB ?_ ?_ | refine tC ?_ ?_ | refine tN ?_ ?_ | refine tF ?_ ?_ | refine tG ?_ ?_ | refine tP ?_ ?_ | refine tQ ?_ ?_ | refine tA ?_ ?_ | refine tO ?_ ?_ | refine tU ?_ ?_ | refine tV ?_ ?_) <;> intro h) | refine dqT ?_ | refine dqF ?_ | refine z6 rfl ?_ | refine z5 rfl ?_ | refine z8 ?_ | refine z9 ?_)
  have hlm : l.length = m.length := by omega
  (refine z09 (fun (_ : Unit) k => [.b false, I k]) (fun (_ : Unit) k (r : List Tx) => decide (r = m.drop k)) (fun _ _ => True) () l ?_ ?_ ?_ ?_ ?_; rfl; exact trivial; first | exact Nat.lt_succ_self _ | omega)
  ·rintro _ k x r hx hd hk - again hag
   have hy : m[k]? = some (m[k]'(by omega)) := List.getElem?_eq_getElem (by omega)
   have hdy : m.drop k = m[k]'(by omega) :: m.drop (k + 1) := List.drop_eq_getElem_cons (by omega)
   rw [hdy]
   generalize m[k]'(by omega) = y at *
   have e : decide (x :: r = y :: m.drop (k + 1)) = if decide (x = y) = true then decide (r = m.drop (k + 1)) else false := by
    by_cases h : x = y
    ·simp [h]
    ·simp [h]
   rw [e]
   have hkm : k < m.length := by omega
   repeat' (first | refine dq1 ?_ | refine dqc ?_ | refine dqm ?_ | refine dqK rfl (zpm x y) ?_ | exact z4 rfl rfl | exact ze rfl rfl (hag () trivial) | exact ze rfl rfl (hag _ trivial) | exact ze rfl rfl (hag _ (by omega)) | exact ze rfl rfl (hag _ (by assumption)) | ((first | refine tR ?_ ?_ | refine tB ?_ ?_ | refine tC ?_ ?_ | refine tN ?_ ?_ | refine tF ?_ ?_ | refine tG ?_ ?_ | refine tP ?_ ?_ | refine tQ ?_ ?_ | refine tA ?_ ?_ | refine tO ?_ ?_ | refine tU ?_ ?_ | refine tV ?_ ?_) <;> intro h) | refine dqT ?_ | refine dqF ?_ | refine z6 rfl ?_ | refine z5 rfl ?_ | refine z8 ?_ | refine z9 ?_)
  ·rintro _ - again
   rw [hlm, List.drop_length]
   repeat' (first | refine dq1 ?_ | refine dqc ?_ | refine dqm ?_ | exact z4 rfl rfl | ((first | refine tR ?_ ?_ | refine tB ?_ ?_ | refine tC ?_ ?_ | refine tN ?_ ?_ | refine tF ?_ ?_ | refine tG ?_ ?_ | refine tP ?_ ?_ | refine tQ ?_ ?_ | refine tA ?_ ?_ | refine tO ?_ ?_ | refine tU ?_ ?_ | refine tV ?_ ?_) <;> intro h) | refine dqT ?_ | refine dqF ?_ | refine z6 rfl ?_ | refine z5 rfl ?_ | refine z8 ?_ | refine z9 ?_)
theorem z05o : Meets Tryz.prog z89 33 ⟨[.agg 5, .agg 5], [(false, [.scal])], true⟩ := by
 refine zo (sp := (z0i [(75, zgn)])) (sigs := z0q) (cut := []) (hints := []) (fn := Tryz.f33) (t := zg7) (by kernel_rfl) (by kernel_rfl) (by kernel_rfl) ?_ ?_
 ·exact (z07 (L := [(75, zgn)]) ⟨za rfl z0cg, trivial⟩)
 ·rintro ds rs - h
  obtain ⟨⟨a, b⟩, -, rfl, rfl⟩ := zq h
  clear h
  refine ⟨⟨1, ?_⟩, z0c rfl⟩
  show den _ _ zg7 [I a.parent, I a.height, I a.work, I a.nonce, .l 3 (a.txs.map eTx), I b.parent, I b.height, I b.work, I b.nonce, .l 3 (b.txs.map eTx)] [] = ret (decide (a = b))
  rw [← z0cf]
  unfold zg7
  repeat' (first | refine dq1 ?_ | refine dqc ?_ | refine dqm ?_ | refine dqK rfl (z02i _ _) ?_ | exact z4 rfl rfl | ((first | refine tR ?_ ?_ | refine tB ?_ ?_ | refine tC ?_ ?_ | refine tN ?_ ?_ | refine tF ?_ ?_ | refine tG ?_ ?_ | refine tP ?_ ?_ | refine tQ ?_ ?_ | refine tA ?_ ?_ | refine tO ?_ ?_ | refine tU ?_ ?_ | refine tV ?_ ?_) <;> intro h) | refine dqT ?_ | refine dqF ?_ | refine z6 rfl ?_ | refine z5 rfl ?_ | refine z8 ?_ | refine z9 ?_)
def lb0 : Block := ⟨0, 1, 2, 0, [⟨1, [], [⟨64, []⟩]⟩]⟩
def lbT : List UInt8 := [98, 108, 111, 99, 107, 32, 48, 32, 49, 32, 50, 32, 48, 10, 116, 120, 32, 49, 10, 111, 117, 116, 32, 54, 52, 58, 10]
def lbX : List UInt8 := [116, 120, 32, 49, 10, 111, 117, 116, 32, 54, 52, 58, 10]
deriving instance DecidableEq for Undo
theorem z05p : z06 lb0 = (lbT, 0) := by with_unfolding_all decide +kernel
theorem z05q : z0d ⟨[]⟩ lb0 = ([lbX, lbT], 2, [1], 0) := by with_unfolding_all decide +kernel
theorem z08d : z1z ⟨[]⟩ [] lb0 = ([⟨⟨1, 0⟩, ⟨64, []⟩, 1, true⟩], [⟨[]⟩], 0) := by with_unfolding_all decide +kernel
noncomputable def zb4 : zd := spD (fun _ : Unit => True) fun _ => true
theorem zzg : zb4 [] = some [.b true] := zm (f := fun _ : Unit => true) () trivial
attribute [local irreducible] z06 z0d z1z z1b z26 z1s
def z05r : T :=
 .lets [.bin .eql (.v 22) (.c (.i .i64 1))] [] (.ite (.v 23) (.lets [] [.inr 6 (.v 8) (.c (.i .i64 0))] (.lets [.idx (.v 8) (.c (.i .i64 0)) 5] [] (.ret [.v 24]))) (.ret [.c (.b
 false)]))
def z05s : T :=
 .ite (.v 19) (.lets [.len (.v 8)] [] (.lets [.bin .eql (.v 20) (.c (.i .i64 1))] [] (.ite (.v 21) (.lets [.len (.v 9)] [] z05r) (.ret [.c (.b false)])))) (.ret [.c (.b false)])
def z05t : T :=
 .lets [.mk 1 [[.c (.i .i64 1)]]] [] (.lets [.call 53 [.v 6, .v 16] 0] [] (.ite (.v 17) (.lets [.len (.v 4)] [] (.lets [.bin .eql (.v 18) (.c (.i .i64 2))] [] z05s)) (.ret [.c
 (.b false)])))
def z05u : T :=
 .lets [.bin .eql (.v 2) (.c (.s [98, 108, 111, 99, 107, 32, 48, 32, 49, 32, 50, 32, 48, 10, 116, 120, 32, 49, 10, 111, 117, 116, 32, 54, 52, 58, 10]))] [] (.ite (.v 14) (.lets [.bin
 .eql (.v 5) (.c (.i .i64 2))] [] (.ite (.v 15) z05t (.ret [.c (.b false)]))) (.ret [.c (.b false)]))
def z05v : T :=
 .lets [.bin .eql (.v 7) (.c (.i .i64 0))] [] (.ite (.v 12) (.lets [.bin .eql (.v 10) (.c (.i .i64 0))] [] (.ite (.v 13) z05u (.ret [.c (.b false)]))) (.ret [.c (.b false)]))
def z05w : T :=
 .lets [.call 74 [.c (.nil 1), .c (.nil 6), .c (.i .i64 0), .c (.i .i64 1), .c (.i .i64 2), .c (.i .i64 0), .v 1] 0, .call 74 [.c (.nil 1), .c (.nil 6), .c (.i .i64 0), .c (.i .i64
 1), .c (.i .i64 2), .c (.i .i64 0), .v 1] 1, .call 74 [.c (.nil 1), .c (.nil 6), .c (.i .i64 0), .c (.i .i64 1), .c (.i .i64 2), .c (.i .i64 0), .v 1] 2] [] (.lets [.bin .eql (.v 3)
 (.c (.i .i64 0))] [] (.ite (.v 11) z05v (.ret [.c (.b false)])))
def z05x : T :=
 .lets [.call 72 [.c (.nil 1), .c (.i .i64 0), .c (.i .i64 1), .c (.i .i64 2), .c (.i .i64 0), .v 1] 0, .call 72 [.c (.nil 1), .c (.i .i64 0), .c (.i .i64 1), .c (.i .i64 2), .c (.i
 .i64 0), .v 1] 1, .call 72 [.c (.nil 1), .c (.i .i64 0), .c (.i .i64 1), .c (.i .i64 2), .c (.i .i64 0), .v 1] 2, .call 72 [.c (.nil 1), .c (.i .i64 0), .c (.i .i64 1), .c (.i .i64
 2), .c (.i .i64 0), .v 1] 3] [] z05w
def z05y : T :=
 .lets [.call 63 [.c (.i .i64 0), .c (.i .i64 1), .c (.i .i64 2), .c (.i .i64 0), .v 1] 0, .call 63 [.c (.i .i64 0), .c (.i .i64 1), .c (.i .i64 2), .c (.i .i64 0), .v 1] 1] []
 z05x
def zm1 : T :=
 .lets [.mk 2 [[.c (.i .i64 64), .c (.nil 2)]]] [] (.lets [.mk 3 [[.c (.i .i64 1), .c (.nil 3), .v 0]]] [] z05y)
attribute [local irreducible] z95
theorem z0ah : Meets Tryz.prog zb4 34 ⟨[], [(false, [.scal])], true⟩ := by
 refine zo (sp := (z0i [(53, z95), (63, z1b), (72, z26), (74, z1s)])) (sigs := z0q) (cut := []) (hints := []) (fn := Tryz.f34) (t := zm1) (by kernel_rfl) (by kernel_rfl) (by kernel_rfl) ?_ ?_
 ·exact (z07 (L := [(53, z95), (63, z1b), (72, z26), (74, z1s)]) ⟨za rfl z07m, za rfl zdx, za rfl ze4, za rfl zg4, trivial⟩)
 ·rintro ds rs - h
  obtain ⟨⟨⟩, -, rfl, rfl⟩ := zq h
  clear h
  refine ⟨⟨1, ?_⟩, z0c rfl⟩
  show den _ _ zm1 [] [] = ret true
  have a1 := z85 lb0
  rw [z05p] at a1
  have a2 := z8j ⟨[]⟩ lb0
  rw [z05q] at a2
  have a3 := zb1 ⟨[]⟩ [] lb0
  rw [z08d] at a3
  have a4 := zu5 [1] [1]
  rw [decide_eq_true rfl] at a4
  have x0 : ([⟨⟨1, 0⟩, ⟨64, []⟩, 1, true⟩] : List Coin)[(0 : Int).toNat]? = some ⟨⟨1, 0⟩, ⟨64, []⟩, 1, true⟩ := rfl
  have x1 : ([⟨⟨1, 0⟩, ⟨64, []⟩, 1, true⟩] : List Coin).length = 1 := rfl
  unfold zm1
  repeat' (first | refine dq1 ?_ | refine dqc ?_ | refine dqm ?_ | refine dqK rfl (a1) ?_ | refine dqK rfl (a2) ?_ | refine dqK rfl (a3) ?_ | refine dqK rfl (a4) ?_ | refine z7 (z29 rfl rfl (by simp)) ?_ | exact z4 rfl rfl | ((first | refine tR ?_ ?_ | refine tB ?_ ?_ | refine tC ?_ ?_ | refine tN ?_ ?_ | refine tF ?_ ?_ | refine tG ?_ ?_ | refine tP ?_ ?_ | refine tQ ?_ ?_ | refine tA ?_ ?_ | refine tO ?_ ?_ | refine tU ?_ ?_ | refine tV ?_ ?_) <;> intro h) | refine dqT ?_ | refine dqF ?_ | refine z6 rfl ?_ | refine z5 rfl ?_ | refine z8 ?_ | refine z9 ?_)
end
section
open Go.RowKit
set_option maxRecDepth 100000
theorem Done.total {l : List Coin} {t : Tx} {nm h : Int} {r s m : List Coin} (d : Done l t nm h r s m) : zb m = zb l - z23 t s := by
 have h1 := d.spentAs.total
 have h2 := d.broughtAs.total
 rw [zea]
 omega
theorem Done.most {l : List Coin} {t : Tx} {nm h : Int} {r s m : List Coin} (d : Done l t nm h r s m) : zb m ≤ zb l - z23 t [] := by
 have S := d.spentAs
 have h1 := S.total
 have h2 := d.broughtAs.total
 have hs : 0 ≤ zb s := z5j fun c hc => d.ok.good c (S.from hc).1
 rw [zea]
 simp only [zb]
 omega
theorem zem {α : Type} {l : List α} {i : Nat} {x d : α} (h : i < l.length) : (l.set i x).getD i d = x := by
 rw [List.getD_eq_getElem?_getD, List.getElem?_set_self h]
 rfl
theorem getD_set_ne {α : Type} {l : List α} {i j : Nat} {x d : α} (h : i ≠ j) : (l.set i x).getD j d = l.getD j d := by
 rw [List.getD_eq_getElem?_getD, List.getElem?_set_ne h, ← List.getD_eq_getElem?_getD]
theorem zhe {b : Block} {ns : List Int} {m : List Coin} {us' : List Undo} : ∀ (r : List Tx) (l : List Coin) (us : List Undo) (most : Int) (j : Nat), z4q b ns l us most (j + 1) r = (m, us', 0) → b.txs.drop (j + 1) = r → us.length = b.txs.length → j + 1 ≤ b.txs.length →
  ∃ l1 us1 most1, za8 b ns l1 us1 most1 = (m, us', 0) ∧ us1.length = b.txs.length ∧ (∀ i, i ≤ j → us1.getD i ⟨[]⟩ = us.getD i ⟨[]⟩) ∧ zb l1 = zb l - (most1 - most) ∧
   ∀ U : List Undo, (∀ i, 1 ≤ i → U.getD i ⟨[]⟩ = us1.getD i ⟨[]⟩) → zbp b ns U l1 (b.txs.length - 1) = zbp b ns U l j
 | [], l, us, most, j, h, hd, hu, hj => by
  rw [z4q] at h
  have hl := congrArg List.length hd
  rw [List.length_drop, List.length_nil] at hl
  have e : b.txs.length - 1 = j := by omega
  exact ⟨l, us, most, h, hu, fun _ _ => rfl, by omega, fun U _ => by rw [e]⟩
 | t :: r, l, us, most, j, h, hd, hu, hj => by
  rw [z4q] at h
  by_cases he : (z04 l t (ns.getD (j + 1) 0) b.height).2.2 = 0
  rotate_left
  ·rw [if_pos he] at h
   exact absurd (congrArg (fun x => x.2.2) h) he
  rw [if_neg (fun k => k he)] at h
  obtain ⟨rr, d⟩ := za0 he
  have hl := congrArg List.length hd
  rw [List.length_drop, List.length_cons] at hl
  have hd2 : b.txs.drop (j + 1 + 1) = r := by rw [← List.drop_drop, hd]; rfl
  have ht : b.txs.getD (j + 1) zTx = t := by
   rw [List.getD_eq_getElem?_getD]
   have : (b.txs.drop (j + 1))[0]? = some t := by rw [hd]; rfl
   rw [List.getElem?_drop] at this
   rw [show j + 1 = j + 1 + 0 by omega, this]
   rfl
  obtain ⟨l1, us1, most1, h1, h2, h3, h4, h5⟩ := zhe r _ _ _ (j + 1) h hd2 (by rw [List.length_set]; exact hu) (by omega)
  refine ⟨l1, us1, most1, h1, h2, fun i hi => ?_, by rw [h4, d.total]; omega, fun U hU => ?_⟩
  ·rw [h3 i (by omega), getD_set_ne (by omega)]
  ·rw [h5 U hU, zbp, ht, hU (j + 1) (by omega), h3 (j + 1) (Nat.le_refl _), zem (by omega), d.back]
   exact if_neg fun k => k rfl
theorem z05z {k : Book} {l m : List Coin} {b : Block} {us : List Undo} (h : z1z k l b = (m, us, 0)) : z8w k m b us = (l, 0) ∧ CoinsOK l ∧ CoinsOK m ∧ zb m ≤ zb l + z0w b.height ∧ zp b = 0 ∧ z2b us := by
 have hsh := zwm k l b
 rw [h] at hsh
 unfold z1z at h
 by_cases hc : zu l = 0
 rotate_left
 ·rw [if_pos hc] at h
  exact absurd (congrArg (fun x => x.2.2) h) hc
 rw [if_neg (fun k => k hc)] at h
 by_cases he : (z0d k b).2.2.2 = 0
 rotate_left
 ·rw [if_pos he] at h
  exact absurd (congrArg (fun x => x.2.2) h) he
 rw [if_neg (fun k => k he)] at h
 obtain ⟨hb, hn⟩ := zeb he
 have ok := z2k hb
 obtain ⟨l1, us1, most1, h1, h2, -, h4, h5⟩ := zhe _ _ _ _ 0 h rfl (by simp) ok.some
 unfold za8 at h1
 by_cases hm : most1 < -z23 (b.txs.getD 0 zTx) []
 ·rw [if_pos hm] at h1
  exact absurd (congrArg (fun x => x.2.2) h1) (by show ¬ (9 : Int) = 0; decide)
 rw [if_neg hm] at h1
 by_cases ha : (z04 l1 (b.txs.getD 0 zTx) ((z0d k b).2.2.1.getD 0 0) b.height).2.2 = 0
 rotate_left
 ·rw [if_pos ha] at h1
  exact absurd (congrArg (fun x => x.2.2) h1) ha
 rw [if_neg (fun k => k ha)] at h1
 obtain ⟨rr, d⟩ := za0 ha
 have e1 : (z04 l1 (b.txs.getD 0 zTx) ((z0d k b).2.2.1.getD 0 0) b.height).1 = m := congrArg (fun x => x.1) h1
 have e2 : us1.set 0 ⟨(z04 l1 (b.txs.getD 0 zTx) ((z0d k b).2.2.1.getD 0 0) b.height).2.1⟩ = us := congrArg (fun x => x.2.1) h1
 generalize z04 l1 (b.txs.getD 0 zTx) ((z0d k b).2.2.1.getD 0 0) b.height = q at *
 obtain ⟨m', sp, f⟩ := q
 simp only at e1 e2 d
 subst e1
 have hl0 := ok.some
 refine ⟨?_, (z0j l).1 hc, d.end_, ?_, hb, hsh⟩
 ·unfold z8w
  rw [if_neg (by rw [(z0j m').2 d.end_]; decide), if_neg (fun k => k he)]
  have hul : us.length = b.txs.length := by rw [← e2, List.length_set, h2]
  rw [if_neg (by omega)]
  have hu0 : us.getD 0 ⟨[]⟩ = ⟨sp⟩ := by rw [← e2]; exact zem (by omega)
  rw [hu0, d.back, if_neg (fun k => k rfl), h5 us fun i hi => by rw [← e2]; exact getD_set_ne (by omega)]
  rfl
 ·have := d.most
  omega
end
section
open Go.RowKit
open Go.Lib (itoa)
set_option maxRecDepth 100000
set_option maxHeartbeats 8000000
attribute [local irreducible] z0o spD zp z06 z64 z1z z8w z3b z0w z2x z1l
attribute [local irreducible] den denX z0y z1h
theorem z060 {b : Block} (h : zp b = 0) : z2x b.height = 0 := by
 have hr := (z2k h).range
 unfold z3z at hr
 with_unfolding_all exact if_neg (by omega)
noncomputable def zpn : zd := spD (fun _ : Book × List Coin × Block => True) fun _ => true
def zm2 : T :=
 .lets [.call 23 [.v 27, .v 1] 0] [] (.ite (.v 39) (.lets [.bin .add (.v 29) (.v 33)] [] (.lets [.bin .leq (.v 31) (.v 40)] [] (.ret [.v 41]))) (.ret [.c (.b false)]))
def zm3 : T :=
 .lets [.bin .eql (.v 32) (.c (.i .i64 0))] [] (.ite (.v 37) (.lets [.bin .eql (.v 34) (.c (.i .i64 0))] [] (.ite (.v 38) zm2 (.ret [.c (.b false)]))) (.ret [.c (.b
 false)]))
def zm4 : T :=
 .lets [.bin .eql (.v 28) (.c (.i .i64 0))] [] (.ite (.v 35) (.lets [.bin .eql (.v 30) (.c (.i .i64 0))] [] (.ite (.v 36) zm3 (.ret [.c (.b false)]))) (.ret [.c (.b
 false)]))
def zm5 : T :=
 .lets [.call 12 [.v 1] 0, .call 12 [.v 1] 1] [] (.lets [.call 12 [.v 21] 0, .call 12 [.v 21] 1] [] (.lets [.call 73 [.v 3] 0, .call 73 [.v 3] 1] [] zm4))
def zm6 : T :=
 .ite (.v 26) (.lets [.call 77 [] 0] [] (.ret [.v 27])) (.lets [.call 94 [.v 0, .v 21, .v 2, .v 3, .v 4, .v 5, .v 6, .v 22] 0, .call 94 [.v 0, .v 21, .v 2, .v 3, .v 4, .v 5, .v 6, .v
 22] 1] [] zm5)
def zm7 : T :=
 .lets [.call 77 [] 0] [] (.lets [.not (.v 24)] [] (.ite (.v 25) (.lets [.call 77 [] 0] [] (.ret [.v 26])) (.lets [.bin .neq (.v 23) (.c (.i .i64 0))] [] zm6)))
def zm8 : T :=
 .lets [.call 74 [.v 0, .v 1, .v 2, .v 3, .v 4, .v 5, .v 6] 0, .call 74 [.v 0, .v 1, .v 2, .v 3, .v 4, .v 5, .v 6] 1, .call 74 [.v 0, .v 1, .v 2, .v 3, .v 4, .v 5, .v 6] 2] []
 zm7
def zm9 : T :=
 .lets [.call 76 [.v 2, .v 3, .v 4, .v 5, .v 6, .v 12, .v 13, .v 14, .v 15, .v 16] 0] [] (.lets [.not (.v 19)] [] (.ite (.v 20) (.ret [.c (.b false)]) zm8))
def zma : T :=
 .lets [.call 93 [.v 7] 0, .call 93 [.v 7] 1, .call 93 [.v 7] 2, .call 93 [.v 7] 3, .call 93 [.v 7] 4, .call 93 [.v 7] 5] [] (.lets [.bin .neq (.v 17) (.c (.i .i64 0))] [] (.ite (.v
 18) (.ret [.c (.b false)]) zm9))
def zmb : T :=
 .lets [.call 23 [.v 18, .v 1] 0] [] (.ite (.v 30) (.lets [.bin .add (.v 20) (.v 24)] [] (.lets [.bin .leq (.v 22) (.v 31)] [] (.ret [.v 32]))) (.ret [.c (.b false)]))
def zjs : T :=
 .lets [.bin .eql (.v 23) (.c (.i .i64 0))] [] (.ite (.v 28) (.lets [.bin .eql (.v 25) (.c (.i .i64 0))] [] (.ite (.v 29) zmb (.ret [.c (.b false)]))) (.ret [.c (.b
 false)]))
def zjt : T :=
 .lets [.bin .eql (.v 19) (.c (.i .i64 0))] [] (.ite (.v 26) (.lets [.bin .eql (.v 21) (.c (.i .i64 0))] [] (.ite (.v 27) zjs (.ret [.c (.b false)]))) (.ret [.c (.b
 false)]))
def zju : T :=
 .lets [.call 12 [.v 1] 0, .call 12 [.v 1] 1] [] (.lets [.call 12 [.v 12] 0, .call 12 [.v 12] 1] [] (.lets [.call 73 [.v 3] 0, .call 73 [.v 3] 1] [] zjt))
def zjv : T :=
 .ite (.v 17) (.lets [.call 77 [] 0] [] (.ret [.v 18])) (.lets [.call 94 [.v 0, .v 12, .v 2, .v 3, .v 4, .v 5, .v 6, .v 13] 0, .call 94 [.v 0, .v 12, .v 2, .v 3, .v 4, .v 5, .v 6, .v
 13] 1] [] zju)
def zjw : T :=
 .lets [.call 77 [] 0] [] (.lets [.not (.v 15)] [] (.ite (.v 16) (.lets [.call 77 [] 0] [] (.ret [.v 17])) (.lets [.bin .neq (.v 14) (.c (.i .i64 0))] [] zjv)))
def zjx : T :=
 .lets [.call 74 [.v 0, .v 1, .v 2, .v 3, .v 4, .v 5, .v 6] 0, .call 74 [.v 0, .v 1, .v 2, .v 3, .v 4, .v 5, .v 6] 1, .call 74 [.v 0, .v 1, .v 2, .v 3, .v 4, .v 5, .v 6] 2] []
 zjw
def zjy : T :=
 .lets [.call 23 [.v 16, .v 1] 0] [] (.ite (.v 28) (.lets [.bin .add (.v 18) (.v 22)] [] (.lets [.bin .leq (.v 20) (.v 29)] [] (.ret [.v 30]))) (.ret [.c (.b false)]))
def zjz : T :=
 .lets [.bin .eql (.v 21) (.c (.i .i64 0))] [] (.ite (.v 26) (.lets [.bin .eql (.v 23) (.c (.i .i64 0))] [] (.ite (.v 27) zjy (.ret [.c (.b false)]))) (.ret [.c (.b
 false)]))
def zk0 : T :=
 .lets [.bin .eql (.v 17) (.c (.i .i64 0))] [] (.ite (.v 24) (.lets [.bin .eql (.v 19) (.c (.i .i64 0))] [] (.ite (.v 25) zjz (.ret [.c (.b false)]))) (.ret [.c (.b
 false)]))
def zk1 : T :=
 .lets [.call 12 [.v 1] 0, .call 12 [.v 1] 1] [] (.lets [.call 12 [.v 10] 0, .call 12 [.v 10] 1] [] (.lets [.call 73 [.v 3] 0, .call 73 [.v 3] 1] [] zk0))
def zk2 : T :=
 .ite (.v 15) (.lets [.call 77 [] 0] [] (.ret [.v 16])) (.lets [.call 94 [.v 0, .v 10, .v 2, .v 3, .v 4, .v 5, .v 6, .v 11] 0, .call 94 [.v 0, .v 10, .v 2, .v 3, .v 4, .v 5, .v 6, .v
 11] 1] [] zk1)
def zk3 : T :=
 .lets [.call 77 [] 0] [] (.lets [.not (.v 13)] [] (.ite (.v 14) (.lets [.call 77 [] 0] [] (.ret [.v 15])) (.lets [.bin .neq (.v 12) (.c (.i .i64 0))] [] zk2)))
def zk4 : T :=
 .lets [.call 74 [.v 0, .v 1, .v 2, .v 3, .v 4, .v 5, .v 6] 0, .call 74 [.v 0, .v 1, .v 2, .v 3, .v 4, .v 5, .v 6] 1, .call 74 [.v 0, .v 1, .v 2, .v 3, .v 4, .v 5, .v 6] 2] []
 zk3
def zk5 : T :=
 .lets [.bin .eql (.v 8) (.c (.i .i64 0))] [] (.ite (.v 9) (.lets [.slen (.v 7)] [] (.lets [.bin .leq (.v 10) (.c (.i .i64 4000))] [] (.ite (.v 11) zma zjx)))
 zk4)
def zb5 : T :=
 .lets [.call 63 [.v 2, .v 3, .v 4, .v 5, .v 6] 0, .call 63 [.v 2, .v 3, .v 4, .v 5, .v 6] 1] [] zk5
attribute [local irreducible] z1s z4m z6s z1b z89 z2g zb4 z97 z86
theorem zwo : Meets Tryz.prog zpn 9 ⟨[.agg 1, .one, .agg 5], [(false, [.scal])], true⟩ := by
 refine zo (sp := (z0i [(12, z86), (23, z97), (63, z1b), (73, z2g), (74, z1s), (76, z89), (77, zb4), (93, z6s), (94, z4m)])) (sigs := z0q) (cut := []) (hints := []) (fn := Tryz.f9) (t := zb5) (by kernel_rfl) (by kernel_rfl) (by kernel_rfl) ?_ ?_
 ·exact (z07 (L := [(12, z86), (23, z97), (63, z1b), (73, z2g), (74, z1s), (76, z89), (77, zb4), (93, z6s), (94, z4m)]) ⟨za rfl z053, za rfl z080, za rfl zdx, za rfl zfw, za rfl zg4, za rfl z05o, za rfl z0ah, za rfl z02f, za rfl z05j, trivial⟩)
 ·rintro ds rs - h
  obtain ⟨⟨k, l, b⟩, -, rfl, rfl⟩ := zq h
  clear h
  refine ⟨⟨1, ?_⟩, z0c rfl⟩
  show den _ _ zb5 [.l 1 (k.texts.map z24), .l 6 (l.map zg), I b.parent, I b.height, I b.work, I b.nonce, .l 3 (b.txs.map eTx)] [] = ret true
  have a1 := z85 b
  have a2 := zzg
  have a3 := zpl b b
  rw [decide_eq_true rfl] at a3
  have a4 := zb1 k l b
  have a5 := zaz b.height
  have a6 := zei l
  have a7 := zvt l l
  rw [decide_eq_true rfl] at a7
  have h00 : ¬ (0 : Int) ≠ 0 := fun h => h rfl
  unfold zb5
  have main : ∀ (m : List Coin) (us : List Undo) (e : Int), z1z k l b = (m, us, e) → e = 0 → z4m [.l 1 (k.texts.map z24), .l 6 (m.map zg), I b.parent, I b.height, I b.work, I b.nonce, .l 3 (b.txs.map eTx), .l 1 (us.map z6v)] = some [.l 6 (l.map zg), I 0] ∧ z3b l = (zb l, 0) ∧ z3b m = (zb m, 0) ∧ zb m ≤ zb l + z0w b.height ∧ z2x b.height = 0 ∧ 0 ≤ zb l ∧ zb l ≤ 1000000000 := by
   intro m us e h he
   subst he
   obtain ⟨c1, c2, c3, c4, c5, c6⟩ := z05z h
   have := zpf k m b us c6
   rw [c1] at this
   exact ⟨this, zjn c2, zjn c3, c4, z060 c5, z5j c2.good, c2.total⟩
  have rg := zg2 b.height
  generalize hq : z1z k l b = q at *
  obtain ⟨m, us, e⟩ := q
  have a8 := zei m
  have main := main m us e rfl
  generalize z3b m = tm at *
  generalize z3b l = tl at *
  generalize z0w b.height = rn at *
  generalize z2x b.height = re at *
  obtain ⟨tm1, tm2⟩ := tm
  obtain ⟨tl1, tl2⟩ := tl
  simp only at *
  by_cases hb : zp b = 0
  ·rw [zwv hb] at a1
   by_cases hl : ((z1l b).length : Int) ≤ 4000
   ·have a9 := zly (z1l b)
    rw [zyj hb (by omega)] at a9
    generalize z1l b = x at *
    by_cases he : e = 0
    ·obtain ⟨d1, d2, d3, d4, d5, d6, d7⟩ := main he
     simp only [Prod.mk.injEq] at d2 d3
     obtain ⟨rfl, rfl⟩ := d2
     obtain ⟨rfl, rfl⟩ := d3
     subst he d5
     have hd := decide_eq_true d4
     repeat' (first | refine dq1 ?_ | refine dqc ?_ | refine dqm ?_ | refine dqK rfl (a1) ?_ | refine dqK rfl (a2) ?_ | refine dqK rfl (a3) ?_ | refine dqK rfl (a4) ?_ | refine dqK rfl (a5) ?_ | refine dqK rfl (a6) ?_ | refine dqK rfl (a7) ?_ | refine dqK rfl (a8) ?_ | refine dqK rfl (a9) ?_ | refine dqK rfl (d1) ?_ | exact z4 rfl rfl | ((first | refine tR ?_ ?_ | refine tB ?_ ?_ | refine tC ?_ ?_ | refine tN ?_ ?_ | refine tF ?_ ?_ | refine tG ?_ ?_ | refine tP ?_ ?_ | refine tQ ?_ ?_ | refine tA ?_ ?_ | refine tO ?_ ?_ | refine tU ?_ ?_ | refine tV ?_ ?_) <;> intro h) | refine dqT ?_ | refine dqF ?_ | refine z6 rfl ?_ | refine z5 rfl ?_ | refine z8 ?_ | refine z9 ?_)
     all_goals (simp only [hd]; exact z4 rfl rfl)
    ·clear main
     repeat' (first | refine dq1 ?_ | refine dqc ?_ | refine dqm ?_ | refine dqK rfl (a1) ?_ | refine dqK rfl (a2) ?_ | refine dqK rfl (a3) ?_ | refine dqK rfl (a4) ?_ | refine dqK rfl (a9) ?_ | exact z4 rfl rfl | ((first | refine tR ?_ ?_ | refine tB ?_ ?_ | refine tC ?_ ?_ | refine tN ?_ ?_ | refine tF ?_ ?_ | refine tG ?_ ?_ | refine tP ?_ ?_ | refine tQ ?_ ?_ | refine tA ?_ ?_ | refine tO ?_ ?_ | refine tU ?_ ?_ | refine tV ?_ ?_) <;> intro h) | refine dqT ?_ | refine dqF ?_ | refine z6 rfl ?_ | refine z5 rfl ?_ | refine z8 ?_ | refine z9 ?_)
   ·generalize z1l b = x at *
    by_cases he : e = 0
    ·obtain ⟨d1, d2, d3, d4, d5, d6, d7⟩ := main he
     simp only [Prod.mk.injEq] at d2 d3
     obtain ⟨rfl, rfl⟩ := d2
     obtain ⟨rfl, rfl⟩ := d3
     subst he d5
     have hd := decide_eq_true d4
     repeat' (first | refine dq1 ?_ | refine dqc ?_ | refine dqm ?_ | refine dqK rfl (a1) ?_ | refine dqK rfl (a2) ?_ | refine dqK rfl (a3) ?_ | refine dqK rfl (a4) ?_ | refine dqK rfl (a5) ?_ | refine dqK rfl (a6) ?_ | refine dqK rfl (a7) ?_ | refine dqK rfl (a8) ?_ | refine dqK rfl (d1) ?_ | exact z4 rfl rfl | ((first | refine tR ?_ ?_ | refine tB ?_ ?_ | refine tC ?_ ?_ | refine tN ?_ ?_ | refine tF ?_ ?_ | refine tG ?_ ?_ | refine tP ?_ ?_ | refine tQ ?_ ?_ | refine tA ?_ ?_ | refine tO ?_ ?_ | refine tU ?_ ?_ | refine tV ?_ ?_) <;> intro h) | refine dqT ?_ | refine dqF ?_ | refine z6 rfl ?_ | refine z5 rfl ?_ | refine z8 ?_ | refine z9 ?_)
     all_goals (simp only [hd]; exact z4 rfl rfl)
    ·clear main
     repeat' (first | refine dq1 ?_ | refine dqc ?_ | refine dqm ?_ | refine dqK rfl (a1) ?_ | refine dqK rfl (a2) ?_ | refine dqK rfl (a3) ?_ | refine dqK rfl (a4) ?_ | exact z4 rfl rfl | ((first | refine tR ?_ ?_ | refine tB ?_ ?_ | refine tC ?_ ?_ | refine tN ?_ ?_ | refine tF ?_ ?_ | refine tG ?_ ?_ | refine tP ?_ ?_ | refine tQ ?_ ?_ | refine tA ?_ ?_ | refine tO ?_ ?_ | refine tU ?_ ?_ | refine tV ?_ ?_) <;> intro h) | refine dqT ?_ | refine dqF ?_ | refine z6 rfl ?_ | refine z5 rfl ?_ | refine z8 ?_ | refine z9 ?_)
  ·have hp : z06 b = ([], zp b) := by with_unfolding_all exact if_pos hb
   rw [hp] at a1
   generalize zp b = f at *
   by_cases he : e = 0
   ·obtain ⟨d1, d2, d3, d4, d5, d6, d7⟩ := main he
    simp only [Prod.mk.injEq] at d2 d3
    obtain ⟨rfl, rfl⟩ := d2
    obtain ⟨rfl, rfl⟩ := d3
    subst he d5
    have hd := decide_eq_true d4
    repeat' (first | refine dq1 ?_ | refine dqc ?_ | refine dqm ?_ | refine dqK rfl (a1) ?_ | refine dqK rfl (a2) ?_ | refine dqK rfl (a3) ?_ | refine dqK rfl (a4) ?_ | refine dqK rfl (a5) ?_ | refine dqK rfl (a6) ?_ | refine dqK rfl (a7) ?_ | refine dqK rfl (a8) ?_ | refine dqK rfl (d1) ?_ | exact z4 rfl rfl | ((first | refine tR ?_ ?_ | refine tB ?_ ?_ | refine tC ?_ ?_ | refine tN ?_ ?_ | refine tF ?_ ?_ | refine tG ?_ ?_ | refine tP ?_ ?_ | refine tQ ?_ ?_ | refine tA ?_ ?_ | refine tO ?_ ?_ | refine tU ?_ ?_ | refine tV ?_ ?_) <;> intro h) | refine dqT ?_ | refine dqF ?_ | refine z6 rfl ?_ | refine z5 rfl ?_ | refine z8 ?_ | refine z9 ?_)
    all_goals (simp only [hd]; exact z4 rfl rfl)
   ·clear main
    repeat' (first | refine dq1 ?_ | refine dqc ?_ | refine dqm ?_ | refine dqK rfl (a1) ?_ | refine dqK rfl (a2) ?_ | refine dqK rfl (a3) ?_ | refine dqK rfl (a4) ?_ | exact z4 rfl rfl | ((first | refine tR ?_ ?_ | refine tB ?_ ?_ | refine tC ?_ ?_ | refine tN ?_ ?_ | refine tF ?_ ?_ | refine tG ?_ ?_ | refine tP ?_ ?_ | refine tQ ?_ ?_ | refine tA ?_ ?_ | refine tO ?_ ?_ | refine tU ?_ ?_ | refine tV ?_ ?_) <;> intro h) | refine dqT ?_ | refine dqF ?_ | refine z6 rfl ?_ | refine z5 rfl ?_ | refine z8 ?_ | refine z9 ?_)
theorem blockBack_walk (k : Book) (c_k : List Value) (l : List (Coin)) (A_l : Option Addr) (n_l c_l : Nat) (b : Block) (c_b : List Value) (w : World) (h_k : shBook.rep w (Lt w.heap.size) k c_k) (h_l : Rds shCoin w (Lt w.heap.size) l A_l n_l c_l) (h_b : shBlock.rep w (Lt w.heap.size) b c_b) (hG : Glob w) :
  Calls Tryz.prog 9 #[.agg c_k.toArray, .slice A_l n_l c_l, .agg c_b.toArray] w fun e w' => e = .returned (.bool true) ∧ Below w.heap.size w w' :=
 zx3 (F := Lt w.heap.size) (us := [.agg c_k.toArray, .slice A_l n_l c_l, .agg c_b.toArray]) rfl (z22 (fn := Tryz.f9) (by kernel_rfl) (by kernel_rfl) (by kernel_rfl)) zwo ⟨fun _ h => h, hG⟩ (zm (f := fun _ => true) (k, l, b) trivial)
  (zis (d1 := z9s k) (she_book.to h_k) rfl (zir (zci zhr h_l) (zis (d1 := z5d b) (she_block.to h_b) rfl ziq)))
end
end Go.Proofs.YtnklncinjahckaaGreatDoor
