/- Own texts, put together by wip/bundle.py: VL7, VS4, VU3, VU4, VW7. -/
import Derived.Test.YtajaacgchhmbjaaDoorLPOwnB
import Derived.Test.YtajaacgchhmbjaaDoorLPOwnV3
import Derived.Test.YtajaacgchhmbjaaDoorLPOwnZ1
namespace Go.Proofs.YtajaacgchhmbjaaDoor
open Go.RowKit
open Go.Lib (itoa atoiAll atoiSat)
set_option linter.unusedVariables false
set_option linter.unusedSimpArgs false
set_option maxRecDepth 100000
set_option maxHeartbeats 4000000
section
variable {sp : Nat → Spec} {N : Nat} {E E' : Env} {ks : List (List Dt → Option (List Dt))} {res : Option (List Dt)}
theorem dx_ise {neg : Bool} {a : Atom} {x : Bool} (ha : a.val E = some (.e x)) : denX sp E (.ise neg a) = some (.b (x == neg)) := by simp only [denX, ha]
end
theorem whole_none {w : List UInt8} (h : (atoiOf w).2.is = true) : wholeOf w = none := by
  unfold atoiOf at h
  unfold wholeOf
  cases ha : atoiAll w with
  | ok v => rw [ha] at h; cases h
  | _ => rfl
theorem whole_some {w : List UInt8} (h : (atoiOf w).2.is = false) : wholeOf w = if itoa (atoiOf w).1 = w then some (atoiOf w).1 else none := by
  unfold atoiOf at h ⊢
  unfold wholeOf
  cases ha : atoiAll w with
  | ok v => rfl
  | _ => rw [ha] at h; cases h
theorem nm_get (k : Nat) (h : k < 14) : (opNames.map Dt.s)[(k : Int).toNat]? = some (.s ((opNames[k]?).getD [])) := by
  have hl : opNames.length = 14 := rfl
  rw [Int.toNat_natCast, List.getElem?_map, List.getElem?_eq_getElem (by omega)]
  rfl
theorem kindGo_bd (w : List UInt8) : ∀ (l : List (List UInt8)) (k r : Int), 0 ≤ k → 0 ≤ r → r ≤ 13 → k + l.length ≤ 14 → 0 ≤ kindGo w k r l ∧ kindGo w k r l ≤ 13
  | [], k, r, _, h0, h1, _ => ⟨h0, h1⟩
  | n :: l, k, r, hk, h0, h1, h2 => by
    rw [kindGo]
    simp only [List.length_cons] at h2
    refine kindGo_bd w l (k + 1) _ (by omega) (by split <;> omega) (by split <;> omega) (by omega)
noncomputable def sp_lockParse : Spec := spD (fun _ : List UInt8 => True) fun s => readOf s
theorem sp_lockParse_at (s : List UInt8) : sp_lockParse [.s s] = some [.l 2 ((readOf s).1.map eOp), I (readOf s).2] := spD_at (f := fun s : List UInt8 => readOf s) s trivial
def readGo (acc : List Op) (ws : List (List UInt8)) : List Op × Int := match wordsOp ws with
  | none => ([], 1)
  | some l => if opsCheck (acc ++ l) ≠ 0 then ([], opsCheck (acc ++ l)) else (acc ++ l, 0)
theorem readGo_cons (acc : List Op) (w : List UInt8) (ws : List (List UInt8)) : readGo acc (w :: ws) = match wordOp w with
  | none => ([], 1)
  | some o => readGo (acc ++ [o]) ws := by
  unfold readGo
  rw [wordsOp]
  cases wordOp w with
  | none => rfl
  | some o =>
    cases wordsOp ws with
    | none => rfl
    | some l => simp only [Option.map_some, List.append_assoc, List.singleton_append]
theorem readOf_go (s : List UInt8) : readOf s = if 4000 < (s.length : Int) then ([], 2) else if s = [] then ([], 0) else readGo [] (cutAt 32 s) := by
  unfold readOf readGo
  rfl
theorem readGo_nil (acc : List Op) : readGo acc [] = if opsCheck acc ≠ 0 then ([], opsCheck acc) else (acc, 0) := by
  unfold readGo
  rw [wordsOp]
  simp only [List.append_nil]
theorem wordOp_zero {w : List UInt8} (h : kindOf w = 0) : wordOp w = (wholeOf w).map fun n => ⟨1, n⟩ := if_pos h
theorem wordOp_kind {w : List UInt8} (h : ¬ kindOf w = 0) : wordOp w = some ⟨kindOf w, 0⟩ := if_neg h
theorem kindGo_snoc (w n : List UInt8) : ∀ (l : List (List UInt8)) (k r : Int), kindGo w k r (l ++ [n]) = if n = w ∧ n ≠ [] then k + l.length else kindGo w k r l
  | [], k, r => by simp only [List.nil_append, kindGo, List.length_nil]; split <;> simp
  | m :: l, k, r => by
    rw [List.cons_append, kindGo, kindGo, kindGo_snoc w n l (k + 1)]
    split
    · simp only [List.length_cons]; omega
    · rfl
theorem kind_next (w : List UInt8) (i : Nat) (h : i < 14) : kindGo w 0 0 (opNames.take (i + 1)) = if (opNames[i]?).getD [] = w ∧ (opNames[i]?).getD [] ≠ [] then (i : Int) else kindGo w 0 0 (opNames.take i) := by
  have hl : opNames.length = 14 := rfl
  rw [List.take_add_one, List.getElem?_eq_getElem (by omega)]
  simp only [Option.toList_some, Option.getD_some]
  rw [kindGo_snoc, List.length_take]
  split
  · omega
  · rfl
attribute [local irreducible] den denX denXs holdXs
attribute [local irreducible] specOf spD ordP itoa opsCheck openOf joinC sp_lockNames readGo atoiOf cutAt wordOp kindGo kindOf
def t_lockParse_0 : T :=
  .ite (.v 32) (.lets [.bin .add (.v 26) (.c (.i .i64 1))] [] (.again 1 [.v 33, .v 26, .v 28])) (.lets [.bin .add (.v 26) (.c (.i .i64 1))] [] (.again 1 [.v 33, .v 27, .v 28]))
def t_lockParse_1 : T :=
  .lets [.bin .eql (.v 30) (.v 11)] [] (.ite (.v 31) (.lets [.bin .neq (.v 30) (.c (.s []))] [] t_lockParse_0) (.lets [.bin .add (.v 26) (.c (.i .i64 1))] [] (.again 1 [.v 32, .v 27,
  .v 28])))
def t_lockParse_2 : T :=
  .lets [.mk 2 [[.c (.i .i64 1), .v 31]]] [] (.lets [.app 2 (.v 8) (.v 36)] [] (.lets [.bin .add (.v 9) (.c (.i .i64 1))] [] (.again 0 [.v 6, .v 7, .v 37, .v 38])))
def t_lockParse_3 : T :=
  .ite (.v 33) (.ret [.c (.nil 2), .c (.i .i64 1)]) (.lets [.call 31 [.v 31] 0] [] (.lets [.bin .neq (.v 34) (.v 11)] [] (.ite (.v 35) (.ret [.c (.nil 2), .c (.i .i64 1)])
  t_lockParse_2)))
def t_lockParse_4 : T :=
  .ite (.v 30) (.lets [.call 42 [.v 11] 0, .call 42 [.v 11] 1] [] (.lets [.ise true (.v 32)] [] t_lockParse_3)) (.lets [.mk 2 [[.v 27, .v 28]]] [] (.lets [.app 2 (.v 8) (.v 31)] []
  (.lets [.bin .add (.v 9) (.c (.i .i64 1))] [] (.again 0 [.v 6, .v 7, .v 32, .v 33]))))
def t_lockParse_5 : T :=
  .ite (.v 29) (.lets [.sel [.v 12, .v 13, .v 14, .v 15, .v 16, .v 17, .v 18, .v 19, .v 20, .v 21, .v 22, .v 23, .v 24, .v 25] (.v 26)] [] t_lockParse_1) (.lets [.bin .eql (.v 27) (.c
  (.i .i64 0))] [] t_lockParse_4)
def t_lockParse_6 : T :=
  .lets [.call 33 [] 0, .call 33 [] 1, .call 33 [] 2, .call 33 [] 3, .call 33 [] 4, .call 33 [] 5, .call 33 [] 6, .call 33 [] 7, .call 33 [] 8, .call 33 [] 9, .call 33 [] 10, .call 33
  [] 11, .call 33 [] 12, .call 33 [] 13] [] (.loop [.c (.i .i64 0), .c (.i .i64 0), .c (.i .i64 0)] (.lets [.bin .lss (.v 26) (.c (.i .i64 14))] [] t_lockParse_5))
def t_lockParse_7 : T :=
  .ite (.v 10) (.lets [] [.inr 1 (.v 4) (.v 9)] (.lets [.idx (.v 4) (.v 9) 0] [] t_lockParse_6)) (.lets [.call 7 [.v 8] 0] [] (.lets [.bin .neq (.v 11) (.c (.i .i64 0))] [] (.ite (.v
  12) (.ret [.c (.nil 2), .v 11]) (.ret [.v 8, .c (.i .i64 0)]))))
def t_lockParse_8 : T :=
  .lets [.call 41 [.v 0, .c (.s [32])] 0] [] (.lets [.len (.v 4)] [] (.loop [.c (.nil 2), .c (.i .i64 0), .c (.nil 2), .c (.i .i64 0)] (.lets [.bin .lss (.v 9) (.v 5)] []
  t_lockParse_7)))
def t_lockParse_9 : T :=
  .lets [.bin .gtr (.v 1) (.c (.i .i64 4000))] [] (.ite (.v 2) (.ret [.c (.nil 2), .c (.i .i64 2)]) (.lets [.bin .eql (.v 0) (.c (.s []))] [] (.ite (.v 3) (.ret [.c (.nil 2), .c (.i
  .i64 0)]) t_lockParse_8)))
def t_lockParse : T :=
  .lets [.slen (.v 0)] [] t_lockParse_9
attribute [local irreducible] sp_atoi sp_itoa sp_lockCheck sp_strSplit
theorem m_lockParse : Meets Tryd.prog sp_lockParse 23 ⟨[.one], [(false, [.fresh 40 2]), (false, [.scal])], false⟩ := by
  refine meets_fast (sp := (spsOf [(7, sp_lockCheck), (31, sp_itoa), (33, sp_lockNames), (41, sp_strSplit), (42, sp_atoi)])) (sigs := sigsA) (cut := []) (hints := [⟨7, [.r 2 40 2, .t 3, .r 4 40 2, .t 21]⟩, ⟨11, [.t 27, .o 7]⟩]) (fn := Tryd.f23) (t := t_lockParse) (by kernel_rfl) (by kernel_rfl) (by kernel_rfl) ?_ ?_
  · exact (sig_of (L := [(7, sp_lockCheck), (31, sp_itoa), (33, sp_lockNames), (41, sp_strSplit), (42, sp_atoi)]) ⟨sig_at rfl m_lockCheck, sig_at rfl m_itoa, sig_at rfl m_lockNames, sig_at rfl m_strSplit, sig_at rfl m_atoi, trivial⟩)
  · rintro ds rs hok h
    obtain ⟨s, -, rfl, rfl⟩ := spD_some h
    clear h
    refine ⟨⟨s.length + 20, ?_⟩, ?_⟩
    · show den _ _ t_lockParse [.s s] [] = ret (readOf s)
      rw [readOf_go]
      unfold t_lockParse
      repeat' (first | refine dq1 ?_ | refine dqc ?_ | refine dqm ?_ | exact den_ret rfl rfl | refine tR (fun h => ?_) fun h => ?_ | refine tB (fun h => ?_) fun h => ?_ | refine tC (fun h => ?_) fun h => ?_ | refine tN (fun h => ?_) fun h => ?_ | refine tF (fun h => ?_) fun h => ?_ | refine tG (fun h => ?_) fun h => ?_ | refine tP (fun h => ?_) fun h => ?_ | refine tQ (fun h => ?_) fun h => ?_ | refine tA (fun h => ?_) fun h => ?_ | refine tO (fun h => ?_) fun h => ?_ | refine tU (fun h => ?_) fun h => ?_ | refine tV (fun h => ?_) fun h => ?_ | refine dqT ?_ | refine dqF ?_ | refine den_t rfl ?_ | refine den_f rfl ?_ | refine dqTn ?_ | refine dqFn ?_)
      have hs4 : s.length ≤ 4000 := by omega
      have hcl := cutAt_len 32 s
      repeat' (first | refine dq1 ?_ | refine dqc ?_ | refine dqm ?_ | refine dqk rfl (sp_strSplit_at s 32 (by omega)) ?_ | refine dqK rfl (sp_strSplit_at s 32 (by omega)) ?_ | exact den_ret rfl rfl | refine tR (fun h => ?_) fun h => ?_ | refine tB (fun h => ?_) fun h => ?_ | refine tC (fun h => ?_) fun h => ?_ | refine tN (fun h => ?_) fun h => ?_ | refine tF (fun h => ?_) fun h => ?_ | refine tG (fun h => ?_) fun h => ?_ | refine tP (fun h => ?_) fun h => ?_ | refine tQ (fun h => ?_) fun h => ?_ | refine tA (fun h => ?_) fun h => ?_ | refine tO (fun h => ?_) fun h => ?_ | refine tU (fun h => ?_) fun h => ?_ | refine tV (fun h => ?_) fun h => ?_ | refine dqT ?_ | refine dqF ?_ | refine den_t rfl ?_ | refine den_f rfl ?_ | refine dqTn ?_ | refine dqFn ?_)
      (refine den_range (fun (a : List Op) k => [.l 2 [], I 0, .l 2 (a.map eOp), I k]) (fun (a : List Op) _ (r : List (List UInt8)) => readGo a r) (fun a k => a.length = k) [] (cutAt 32 s) ?_ ?_ ?_ ?_ ?_; rfl; exact rfl; omega)
      · rintro a k w r hx hd hk ha again hag
        have hw := hcl.2 w (List.mem_of_getElem? hx)
        rw [readGo_cons]
        have hk0 := (kindGo_bd w opNames 0 0 (by decide) (by decide) (by decide) (by decide)).1
        repeat' (first | refine dq1 ?_ | refine dqc ?_ | refine dqm ?_ | refine dqk rfl (sp_lockNames_at) ?_ | refine dqK rfl (sp_lockNames_at) ?_ | exact den_ret rfl rfl | refine tR (fun h => ?_) fun h => ?_ | refine tB (fun h => ?_) fun h => ?_ | refine tC (fun h => ?_) fun h => ?_ | refine tN (fun h => ?_) fun h => ?_ | refine tF (fun h => ?_) fun h => ?_ | refine tG (fun h => ?_) fun h => ?_ | refine tP (fun h => ?_) fun h => ?_ | refine tQ (fun h => ?_) fun h => ?_ | refine tA (fun h => ?_) fun h => ?_ | refine tO (fun h => ?_) fun h => ?_ | refine tU (fun h => ?_) fun h => ?_ | refine tV (fun h => ?_) fun h => ?_ | refine dqT ?_ | refine dqF ?_ | refine den_t rfl ?_ | refine den_f rfl ?_ | refine dqTn ?_ | refine dqFn ?_)
        (refine den_loop' (st := fun i => [I i, I (kindGo w 0 0 (opNames.take i)), I 0]) (n := 14) (by with_unfolding_all rfl) (by omega) ?_ ?_)
        · intro i hi again' hag'
          have hn := nm_get i hi
          have hag' : again' [I ((i : Int) + 1), I (kindGo w 0 0 (opNames.take (i + 1))), I 0] = _ := hag'
          rw [kind_next w i hi] at hag'
          generalize (opNames[i]?).getD [] = nm at *
          repeat' (first | refine dq1 ?_ | refine dqc ?_ | refine dqm ?_ | refine den_let1 (dx_sel rfl rfl (by omega) hn) ?_ | exact den_ret rfl rfl | refine tR (fun h => ?_) fun h => ?_ | refine tB (fun h => ?_) fun h => ?_ | refine tC (fun h => ?_) fun h => ?_ | refine tN (fun h => ?_) fun h => ?_ | refine tF (fun h => ?_) fun h => ?_ | refine tG (fun h => ?_) fun h => ?_ | refine tP (fun h => ?_) fun h => ?_ | refine tQ (fun h => ?_) fun h => ?_ | refine tA (fun h => ?_) fun h => ?_ | refine tO (fun h => ?_) fun h => ?_ | refine tU (fun h => ?_) fun h => ?_ | refine tV (fun h => ?_) fun h => ?_ | refine dqT ?_ | refine dqF ?_ | refine den_t rfl ?_ | refine den_f rfl ?_ | refine dqTn ?_ | refine dqFn ?_)
          refine den_sp rfl (fun h1 => ?_) (fun h1 => ?_)
          · repeat' (first | refine dq1 ?_ | refine dqc ?_ | refine dqm ?_ | exact den_ret rfl rfl | refine tR (fun h => ?_) fun h => ?_ | refine tB (fun h => ?_) fun h => ?_ | refine tC (fun h => ?_) fun h => ?_ | refine tN (fun h => ?_) fun h => ?_ | refine tF (fun h => ?_) fun h => ?_ | refine tG (fun h => ?_) fun h => ?_ | refine tP (fun h => ?_) fun h => ?_ | refine tQ (fun h => ?_) fun h => ?_ | refine tA (fun h => ?_) fun h => ?_ | refine tO (fun h => ?_) fun h => ?_ | refine tU (fun h => ?_) fun h => ?_ | refine tV (fun h => ?_) fun h => ?_ | refine dqT ?_ | refine dqF ?_ | refine den_t rfl ?_ | refine den_f rfl ?_ | refine dqTn ?_ | refine dqFn ?_)
            refine den_sp rfl (fun h2 => ?_) (fun h2 => ?_)
            · rw [if_pos ⟨h1, h2⟩] at hag'
              repeat' (first | refine dq1 ?_ | refine dqc ?_ | refine dqm ?_ | exact den_ret rfl rfl | refine tR (fun h => ?_) fun h => ?_ | refine tB (fun h => ?_) fun h => ?_ | refine tC (fun h => ?_) fun h => ?_ | refine tN (fun h => ?_) fun h => ?_ | refine tF (fun h => ?_) fun h => ?_ | refine tG (fun h => ?_) fun h => ?_ | refine tP (fun h => ?_) fun h => ?_ | refine tQ (fun h => ?_) fun h => ?_ | refine tA (fun h => ?_) fun h => ?_ | refine tO (fun h => ?_) fun h => ?_ | refine tU (fun h => ?_) fun h => ?_ | refine tV (fun h => ?_) fun h => ?_ | refine dqT ?_ | refine dqF ?_ | refine den_t rfl ?_ | refine den_f rfl ?_ | refine dqTn ?_ | refine dqFn ?_)
              exact den_again rfl rfl hag'
            · rw [if_neg (fun h => h2 h.2)] at hag'
              repeat' (first | refine dq1 ?_ | refine dqc ?_ | refine dqm ?_ | exact den_ret rfl rfl | refine tR (fun h => ?_) fun h => ?_ | refine tB (fun h => ?_) fun h => ?_ | refine tC (fun h => ?_) fun h => ?_ | refine tN (fun h => ?_) fun h => ?_ | refine tF (fun h => ?_) fun h => ?_ | refine tG (fun h => ?_) fun h => ?_ | refine tP (fun h => ?_) fun h => ?_ | refine tQ (fun h => ?_) fun h => ?_ | refine tA (fun h => ?_) fun h => ?_ | refine tO (fun h => ?_) fun h => ?_ | refine tU (fun h => ?_) fun h => ?_ | refine tV (fun h => ?_) fun h => ?_ | refine dqT ?_ | refine dqF ?_ | refine den_t rfl ?_ | refine den_f rfl ?_ | refine dqTn ?_ | refine dqFn ?_)
              exact den_again rfl rfl hag'
          · rw [if_neg (fun h => h1 h.1)] at hag'
            repeat' (first | refine dq1 ?_ | refine dqc ?_ | refine dqm ?_ | exact den_ret rfl rfl | refine tR (fun h => ?_) fun h => ?_ | refine tB (fun h => ?_) fun h => ?_ | refine tC (fun h => ?_) fun h => ?_ | refine tN (fun h => ?_) fun h => ?_ | refine tF (fun h => ?_) fun h => ?_ | refine tG (fun h => ?_) fun h => ?_ | refine tP (fun h => ?_) fun h => ?_ | refine tQ (fun h => ?_) fun h => ?_ | refine tA (fun h => ?_) fun h => ?_ | refine tO (fun h => ?_) fun h => ?_ | refine tU (fun h => ?_) fun h => ?_ | refine tV (fun h => ?_) fun h => ?_ | refine dqT ?_ | refine dqF ?_ | refine den_t rfl ?_ | refine den_f rfl ?_ | refine dqTn ?_ | refine dqFn ?_)
            exact den_again rfl rfl hag'
        · intro again'
          have ek : kindGo w 0 0 (opNames.take 14) = kindOf w := by with_unfolding_all rfl
          simp only [ek]
          have hko : 0 ≤ kindOf w := by with_unfolding_all exact hk0
          have a9 := sp_atoi_at w (by omega)
          repeat' (first | refine dq1 ?_ | refine dqc ?_ | refine dqm ?_ | exact den_ret rfl rfl | refine tR (fun h => ?_) fun h => ?_ | refine tB (fun h => ?_) fun h => ?_ | refine tC (fun h => ?_) fun h => ?_ | refine tN (fun h => ?_) fun h => ?_ | refine tF (fun h => ?_) fun h => ?_ | refine tG (fun h => ?_) fun h => ?_ | refine tP (fun h => ?_) fun h => ?_ | refine tQ (fun h => ?_) fun h => ?_ | refine tA (fun h => ?_) fun h => ?_ | refine tO (fun h => ?_) fun h => ?_ | refine tU (fun h => ?_) fun h => ?_ | refine tV (fun h => ?_) fun h => ?_ | refine dqT ?_ | refine dqF ?_ | refine den_t rfl ?_ | refine den_f rfl ?_ | refine dqTn ?_ | refine dqFn ?_)
          refine den_sp rfl (fun h1 => ?_) (fun h1 => ?_)
          · rw [wordOp_zero h1]
            cases hi : (atoiOf w).2.is with
            | true =>
              rw [whole_none hi]
              rw [hi] at a9
              repeat' (first | refine dq1 ?_ | refine dqc ?_ | refine dqm ?_ | refine dqk rfl (a9) ?_ | refine dqK rfl (a9) ?_ | refine den_let1 (dx_ise rfl) ?_ | exact den_ret rfl rfl | refine tR (fun h => ?_) fun h => ?_ | refine tB (fun h => ?_) fun h => ?_ | refine tC (fun h => ?_) fun h => ?_ | refine tN (fun h => ?_) fun h => ?_ | refine tF (fun h => ?_) fun h => ?_ | refine tG (fun h => ?_) fun h => ?_ | refine tP (fun h => ?_) fun h => ?_ | refine tQ (fun h => ?_) fun h => ?_ | refine tA (fun h => ?_) fun h => ?_ | refine tO (fun h => ?_) fun h => ?_ | refine tU (fun h => ?_) fun h => ?_ | refine tV (fun h => ?_) fun h => ?_ | refine dqT ?_ | refine dqF ?_ | refine den_t rfl ?_ | refine den_f rfl ?_ | refine dqTn ?_ | refine dqFn ?_)
            | false =>
              rw [whole_some hi]
              rw [hi] at a9
              generalize (atoiOf w).1 = n at *
              repeat' (first | refine dq1 ?_ | refine dqc ?_ | refine dqm ?_ | refine dqk rfl (a9) ?_ | refine dqK rfl (a9) ?_ | refine dqk rfl (sp_itoa_at _) ?_ | refine dqK rfl (sp_itoa_at _) ?_ | refine den_let1 (dx_ise rfl) ?_ | exact den_ret rfl rfl | refine tR (fun h => ?_) fun h => ?_ | refine tB (fun h => ?_) fun h => ?_ | refine tC (fun h => ?_) fun h => ?_ | refine tN (fun h => ?_) fun h => ?_ | refine tF (fun h => ?_) fun h => ?_ | refine tG (fun h => ?_) fun h => ?_ | refine tP (fun h => ?_) fun h => ?_ | refine tQ (fun h => ?_) fun h => ?_ | refine tA (fun h => ?_) fun h => ?_ | refine tO (fun h => ?_) fun h => ?_ | refine tU (fun h => ?_) fun h => ?_ | refine tV (fun h => ?_) fun h => ?_ | refine dqT ?_ | refine dqF ?_ | refine den_t rfl ?_ | refine den_f rfl ?_ | refine dqTn ?_ | refine dqFn ?_)
              refine den_sp rfl (fun h2 => ?_) (fun h2 => ?_)
              · rw [if_neg h2]
                repeat' (first | refine dq1 ?_ | refine dqc ?_ | refine dqm ?_ | exact den_ret rfl rfl | refine tR (fun h => ?_) fun h => ?_ | refine tB (fun h => ?_) fun h => ?_ | refine tC (fun h => ?_) fun h => ?_ | refine tN (fun h => ?_) fun h => ?_ | refine tF (fun h => ?_) fun h => ?_ | refine tG (fun h => ?_) fun h => ?_ | refine tP (fun h => ?_) fun h => ?_ | refine tQ (fun h => ?_) fun h => ?_ | refine tA (fun h => ?_) fun h => ?_ | refine tO (fun h => ?_) fun h => ?_ | refine tU (fun h => ?_) fun h => ?_ | refine tV (fun h => ?_) fun h => ?_ | refine dqT ?_ | refine dqF ?_ | refine den_t rfl ?_ | refine den_f rfl ?_ | refine dqTn ?_ | refine dqFn ?_)
              · have h2 := Decidable.not_not.1 h2
                rw [if_pos h2]
                simp only [Option.map_some]
                repeat' (first | refine dq1 ?_ | refine dqc ?_ | refine dqm ?_ | refine den_let1 (den_mk rfl rfl (by simp)) ?_ | refine den_let1 (dx_app1 (x := ⟨1, n⟩) (fun _ => rfl) rfl rfl (by omega)) ?_ | exact den_ret rfl rfl | refine tR (fun h => ?_) fun h => ?_ | refine tB (fun h => ?_) fun h => ?_ | refine tC (fun h => ?_) fun h => ?_ | refine tN (fun h => ?_) fun h => ?_ | refine tF (fun h => ?_) fun h => ?_ | refine tG (fun h => ?_) fun h => ?_ | refine tP (fun h => ?_) fun h => ?_ | refine tQ (fun h => ?_) fun h => ?_ | refine tA (fun h => ?_) fun h => ?_ | refine tO (fun h => ?_) fun h => ?_ | refine tU (fun h => ?_) fun h => ?_ | refine tV (fun h => ?_) fun h => ?_ | refine dqT ?_ | refine dqF ?_ | refine den_t rfl ?_ | refine den_f rfl ?_ | refine dqTn ?_ | refine dqFn ?_)
                exact den_again rfl rfl (hag (a ++ [⟨1, n⟩]) (by rw [List.length_append, ha]; rfl))
          · rw [wordOp_kind h1]
            simp only
            repeat' (first | refine dq1 ?_ | refine dqc ?_ | refine dqm ?_ | refine den_let1 (den_mk rfl rfl (by simp)) ?_ | refine den_let1 (dx_app1 (x := ⟨kindOf w, 0⟩) (fun _ => rfl) rfl rfl (by omega)) ?_ | exact den_ret rfl rfl | refine tR (fun h => ?_) fun h => ?_ | refine tB (fun h => ?_) fun h => ?_ | refine tC (fun h => ?_) fun h => ?_ | refine tN (fun h => ?_) fun h => ?_ | refine tF (fun h => ?_) fun h => ?_ | refine tG (fun h => ?_) fun h => ?_ | refine tP (fun h => ?_) fun h => ?_ | refine tQ (fun h => ?_) fun h => ?_ | refine tA (fun h => ?_) fun h => ?_ | refine tO (fun h => ?_) fun h => ?_ | refine tU (fun h => ?_) fun h => ?_ | refine tV (fun h => ?_) fun h => ?_ | refine dqT ?_ | refine dqF ?_ | refine den_t rfl ?_ | refine den_f rfl ?_ | refine dqTn ?_ | refine dqFn ?_)
            exact den_again rfl rfl (hag (a ++ [⟨kindOf w, 0⟩]) (by rw [List.length_append, ha]; rfl))
      · rintro a ha again
        rw [readGo_nil]
        repeat' (first | refine dq1 ?_ | refine dqc ?_ | refine dqm ?_ | refine dqk rfl (sp_lockCheck_at _) ?_ | refine dqK rfl (sp_lockCheck_at _) ?_ | exact den_ret rfl rfl | refine tR (fun h => ?_) fun h => ?_ | refine tB (fun h => ?_) fun h => ?_ | refine tC (fun h => ?_) fun h => ?_ | refine tN (fun h => ?_) fun h => ?_ | refine tF (fun h => ?_) fun h => ?_ | refine tG (fun h => ?_) fun h => ?_ | refine tP (fun h => ?_) fun h => ?_ | refine tQ (fun h => ?_) fun h => ?_ | refine tA (fun h => ?_) fun h => ?_ | refine tO (fun h => ?_) fun h => ?_ | refine tU (fun h => ?_) fun h => ?_ | refine tV (fun h => ?_) fun h => ?_ | refine dqT ?_ | refine dqF ?_ | refine den_t rfl ?_ | refine den_f rfl ?_ | refine dqTn ?_ | refine dqFn ?_)
    · intro i d hi hd
      match i, hi, hd with
      | 0, hi, _ => simp [cfsOf] at hi
      | 1, _, hd => simp only [Enc.e, eInt, List.cons_append, List.nil_append, List.getElem?_cons_zero, List.getElem?_cons_succ, Option.some.injEq] at hd; subst hd; rfl
      | i + 2, hi, hd => simp [cfsOf] at hi
end Go.Proofs.YtajaacgchhmbjaaDoor
namespace Go.Proofs.YtajaacgchhmbjaaDoor
open Go.RowKit
set_option linter.unusedVariables false
set_option linter.unusedSimpArgs false
noncomputable def sp_eqInts : Spec := spD (fun _ : List Int × List Int => True) fun x => decide (x.1 = x.2)
theorem sp_eqInts_at (a b : List Int) : sp_eqInts [.l 1 (a.map eInt), .l 1 (b.map eInt)] = some [.b (decide (a = b))] := spD_at (f := fun x : List Int × List Int => decide (x.1 = x.2)) (a, b) trivial
theorem m_eqInts : Meets Tryd.prog sp_eqInts 19 ⟨[.one, .one], [(false, [.scal])], true⟩ :=
  meets_libB rfl (en_of (fn := Tryd.f19) (by kernel_rfl) (by kernel_rfl) (by kernel_rfl)) fun ⟨a, b⟩ _ W F us hF h => by
    obtain ⟨v, us, rfl, h1, h⟩ := pks_one h
    obtain ⟨v2, us, rfl, h2, h⟩ := pks_one h
    obtain rfl := pks_nil h
    obtain ⟨A, n, c, rfl, k1⟩ := rep_rds she_int h1
    obtain ⟨A2, n2, c2, rfl, k2⟩ := rep_rds she_int h2
    refine (equal_int a b A A2 n c n2 c2 W F F k1 k2).mono ?_
    rintro r W' ⟨rfl, m, rfl⟩
    exact ⟨rfl, below_drewN (Below.refl _ _) m⟩
end Go.Proofs.YtajaacgchhmbjaaDoor
namespace Go.Proofs.YtajaacgchhmbjaaDoor
open Go.RowKit
set_option linter.unusedVariables false
set_option linter.unusedSimpArgs false
set_option maxRecDepth 100000
set_option maxHeartbeats 4000000
attribute [local irreducible] specOf spD ordP
end Go.Proofs.YtajaacgchhmbjaaDoor
namespace Go.Proofs.YtajaacgchhmbjaaDoor
open Go.RowKit
set_option linter.unusedVariables false
set_option linter.unusedSimpArgs false
set_option maxRecDepth 100000
set_option maxHeartbeats 4000000
theorem sp_eqOps_at (l m : List Op) : sp_eqOps [.l 2 (l.map eOp), .l 2 (m.map eOp)] = some [.b (decide (l = m))] := spD_at (f := fun x : List Op × List Op => decide (x.1 = x.2)) (l, m) trivial
theorem m_eqOps : Meets Tryd.prog sp_eqOps 24 ⟨[.one, .one], [(false, [.scal])], true⟩ :=
  meets_scal2 (e := fun x : { x : List Op × List Op // True } => Enc.e x.1) (d := fun x => .b (decide (x.1.1 = x.1.2))) rfl (en_of (fn := Tryd.f24) (by kernel_rfl) (by kernel_rfl) (by kernel_rfl)) (fun _ => rfl) fun x W F us hF h => by
    obtain ⟨v, us, rfl, h1, h⟩ := pks_one h
    obtain ⟨v2, us, rfl, h2, h⟩ := pks_one h
    obtain rfl := pks_nil h
    obtain ⟨A, n, c, rfl, k1⟩ := rep_rds she_op h1
    obtain ⟨A2, n2, c2, rfl, k2⟩ := rep_rds she_op h2
    refine (equal_op x.1.1 x.1.2 A A2 n c n2 c2 W F F k1 k2).mono ?_
    rintro r W' ⟨rfl, m, rfl⟩
    exact ⟨_, rfl, below_drewN (Below.refl _ _) m, .b _⟩
attribute [local irreducible] specOf spD ordP
end Go.Proofs.YtajaacgchhmbjaaDoor
namespace Go.Proofs.YtajaacgchhmbjaaDoor
open Go.RowKit
open Go.Lib (itoa)
set_option linter.unusedVariables false
set_option linter.unusedSimpArgs false
set_option maxRecDepth 100000
set_option maxHeartbeats 8000000
section
variable {sp : Nat → Spec} {N : Nat} {E E' : Env} {ks : List (List Dt → Option (List Dt))} {res : Option (List Dt)}
theorem dx_cutr {α : Type} {f : α → List Dt} {l t : List α} {sz : Nat} {a lo : Atom} {n : Int} (ha : a.val E = some (.l sz (l.map f))) (hl : lo.val E = some (I n)) (h1 : 0 ≤ n) (h2 : n ≤ l.length) (ht : l.drop n.toNat = t) : denX sp E (.sub sz a (some lo) none) = some (.l sz (t.map f)) := by
  have hb : bndI E 0 (some lo) = some n := by show asI (lo.val E) = some n; rw [hl]; rfl
  have := dx_sub (lo := some lo) (hi := none) (m := n) (n := (l.length : Int)) (sp := sp) ha hb rfl h1 h2 (Int.le_refl _)
  rw [this, Int.toNat_natCast, List.take_length, ht]
end
def atI (k n : Int) : Int := if k.tmod n < 0 then k.tmod n + n else k.tmod n
theorem atI_bd {k n : Int} (h : 1 ≤ n) : 0 ≤ atI k n ∧ atI k n < n := by
  have h1 : (k.tmod n).natAbs < n.natAbs := by
    rw [Int.natAbs_tmod]
    exact Nat.mod_lt _ (by omega)
  unfold atI
  split <;> omega
noncomputable def sp_lAt : Spec := spD (fun x : Int × Int => 1 ≤ x.2) fun x => atI x.1 x.2
theorem sp_lAt_at (k n : Int) (h : 1 ≤ n) : sp_lAt [I k, I n] = some [I (atI k n)] := spD_at (p := fun x : Int × Int => 1 ≤ x.2) (f := fun x : Int × Int => atI x.1 x.2) (k, n) h
def t_lAt : T :=
  .lets [.bin .rem (.v 0) (.v 1)] [] (.lets [.bin .lss (.v 2) (.c (.i .i64 0))] [] (.ite (.v 3) (.lets [.bin .add (.v 2) (.v 1)] [] (.ret [.v 4])) (.ret [.v 2])))
theorem m_lAt : Meets Tryd.prog sp_lAt 21 ⟨[.one, .one], [(false, [.scal])], true⟩ := by
  refine meets_fast (sp := (spsOf [])) (sigs := sigsA) (cut := []) (hints := []) (fn := Tryd.f21) (t := t_lAt) (by kernel_rfl) (by kernel_rfl) (by kernel_rfl) ?_ ?_
  · exact (sig_of (L := []) trivial)
  · rintro ds rs hok h
    obtain ⟨⟨k, n⟩, hn, rfl, rfl⟩ := spD_some h
    clear h
    simp only at hn
    refine ⟨⟨1, ?_⟩, scalOk_1 rfl⟩
    have h2 := hok (I n) (by simp [Enc.e, eInt])
    show den _ _ t_lAt [I k, I n] [] = ret (atI k n)
    have h1 : (k.tmod n).natAbs < n.natAbs := by
      rw [Int.natAbs_tmod]
      exact Nat.mod_lt _ (by omega)
    have h3 : n ≤ 9223372036854775807 := by
      cases h2 with
      | i _ _ h => exact (wrap_i64' h).2
    unfold t_lAt atI
    refine den_let1 (den_rem rfl rfl (by omega)) ?_
    repeat' (first | refine dq1 ?_ | refine dqc ?_ | refine dqm ?_ | exact den_ret rfl rfl | refine tR (fun h => ?_) fun h => ?_ | refine tB (fun h => ?_) fun h => ?_ | refine tC (fun h => ?_) fun h => ?_ | refine tN (fun h => ?_) fun h => ?_ | refine tF (fun h => ?_) fun h => ?_ | refine tG (fun h => ?_) fun h => ?_ | refine tP (fun h => ?_) fun h => ?_ | refine tQ (fun h => ?_) fun h => ?_ | refine tA (fun h => ?_) fun h => ?_ | refine tO (fun h => ?_) fun h => ?_ | refine tU (fun h => ?_) fun h => ?_ | refine tV (fun h => ?_) fun h => ?_ | refine dqT ?_ | refine dqF ?_ | refine den_t rfl ?_ | refine den_f rfl ?_ | refine dqTn ?_ | refine dqFn ?_)
theorem sp_eqOps_self (l : List Op) : sp_eqOps [.l 2 (l.map eOp), .l 2 (l.map eOp)] = some [.b true] := by
  have h := sp_eqOps_at l l
  rw [decide_eq_true rfl] at h
  exact h
attribute [local irreducible] specOf spD ordP itoa opsCheck openOf runOf runM atI readOf printOf opsText
noncomputable def sp_lLockParts : Spec := spD (fun _ : List Op × List Int × Int × Int => True) fun _ => true
attribute [local irreducible] den denX denXs holdXs
def t_lLockParts_0 : T :=
  .ite (.v 30) (.lets [.call 51 [.v 24, .v 4] 0] [] (.ite (.v 31) (.lets [.call 19 [.v 0, .v 22] 0] [] (.ret [.v 32])) (.ret [.c (.b false)]))) (.ret [.c (.b false)])
def t_lLockParts_1 : T :=
  .ite (.v 28) (.lets [.bin .eql (.v 23) (.c (.i .i64 0))] [] (.ite (.v 29) (.lets [.bin .eql (.v 25) (.v 5)] [] t_lLockParts_0) (.ret [.c (.b false)]))) (.ret [.c (.b false)])
def t_lLockParts_2 : T :=
  .ite (.v 26) (.lets [.call 51 [.v 18, .v 4] 0] [] (.ite (.v 27) (.lets [.bin .eql (.v 21) (.c (.i .i64 0))] [] t_lLockParts_1) (.ret [.c (.b false)]))) (.ret [.c (.b false)])
def t_lLockParts_3 : T :=
  .lets [.call 54 [.v 20] 0, .call 54 [.v 20] 1] [] (.lets [.call 22 [.v 22, .v 1, .v 2] 0, .call 22 [.v 22, .v 1, .v 2] 1] [] (.lets [.bin .eql (.v 19) (.v 5)] [] t_lLockParts_2))
def t_lLockParts_4 : T :=
  .lets [.sub 2 (.v 0) (some (.v 12)) none] [] (.lets [.call 22 [.v 17, .v 14, .v 2] 0, .call 22 [.v 17, .v 14, .v 2] 1] [] (.lets [.call 34 [.v 0] 0, .call 34 [.v 0] 1] []
  t_lLockParts_3))
def t_lLockParts_5 : T :=
  .ite (.v 27) (.lets [.call 51 [.v 21, .v 4] 0] [] (.ite (.v 28) (.lets [.call 19 [.v 0, .v 19] 0] [] (.ret [.v 29])) (.ret [.c (.b false)]))) (.ret [.c (.b false)])
def t_lLockParts_6 : T :=
  .ite (.v 25) (.lets [.bin .eql (.v 20) (.c (.i .i64 0))] [] (.ite (.v 26) (.lets [.bin .eql (.v 22) (.v 5)] [] t_lLockParts_5) (.ret [.c (.b false)]))) (.ret [.c (.b false)])
def t_lLockParts_7 : T :=
  .ite (.v 23) (.lets [.call 51 [.v 14, .v 4] 0] [] (.ite (.v 24) (.lets [.bin .eql (.v 18) (.c (.i .i64 0))] [] t_lLockParts_6) (.ret [.c (.b false)]))) (.ret [.c (.b false)])
def t_lLockParts_8 : T :=
  .lets [.call 54 [.v 17] 0, .call 54 [.v 17] 1] [] (.lets [.call 22 [.v 19, .v 1, .v 2] 0, .call 22 [.v 19, .v 1, .v 2] 1] [] (.lets [.bin .eql (.v 15) (.v 5)] [] t_lLockParts_7))
def t_lLockParts_9 : T :=
  .lets [.call 22 [.v 13, .v 1, .v 2] 0, .call 22 [.v 13, .v 1, .v 2] 1] [] (.lets [.bin .eql (.v 15) (.c (.i .i64 0))] [] (.ite (.v 16) t_lLockParts_4 (.lets [.call 34 [.v 0] 0,
  .call 34 [.v 0] 1] [] t_lLockParts_8)))
def t_lLockParts_10 : T :=
  .lets [.len (.v 0)] [] (.lets [.bin .add (.v 10) (.c (.i .i64 1))] [] (.lets [.call 53 [.v 3, .v 11] 0] [] (.lets [.sub 2 (.v 0) none (some (.v 12))] [] t_lLockParts_9)))
def t_lLockParts_11 : T :=
  .ite (.v 29) (.lets [.call 51 [.v 23, .v 4] 0] [] (.ite (.v 30) (.lets [.call 19 [.v 0, .v 21] 0] [] (.ret [.v 31])) (.ret [.c (.b false)]))) (.ret [.c (.b false)])
def t_lLockParts_12 : T :=
  .ite (.v 27) (.lets [.bin .eql (.v 22) (.c (.i .i64 0))] [] (.ite (.v 28) (.lets [.bin .eql (.v 24) (.v 5)] [] t_lLockParts_11) (.ret [.c (.b false)]))) (.ret [.c (.b false)])
def t_lLockParts_13 : T :=
  .ite (.v 25) (.lets [.call 51 [.v 17, .v 4] 0] [] (.ite (.v 26) (.lets [.bin .eql (.v 20) (.c (.i .i64 0))] [] t_lLockParts_12) (.ret [.c (.b false)]))) (.ret [.c (.b false)])
def t_lLockParts_14 : T :=
  .lets [.call 54 [.v 19] 0, .call 54 [.v 19] 1] [] (.lets [.call 22 [.v 21, .v 1, .v 2] 0, .call 22 [.v 21, .v 1, .v 2] 1] [] (.lets [.bin .eql (.v 18) (.v 5)] [] t_lLockParts_13))
def t_lLockParts_15 : T :=
  .lets [.sub 2 (.v 0) (some (.v 11)) none] [] (.lets [.call 22 [.v 16, .v 13, .v 2] 0, .call 22 [.v 16, .v 13, .v 2] 1] [] (.lets [.call 34 [.v 0] 0, .call 34 [.v 0] 1] []
  t_lLockParts_14))
def t_lLockParts_16 : T :=
  .ite (.v 26) (.lets [.call 51 [.v 20, .v 4] 0] [] (.ite (.v 27) (.lets [.call 19 [.v 0, .v 18] 0] [] (.ret [.v 28])) (.ret [.c (.b false)]))) (.ret [.c (.b false)])
def t_lLockParts_17 : T :=
  .ite (.v 24) (.lets [.bin .eql (.v 19) (.c (.i .i64 0))] [] (.ite (.v 25) (.lets [.bin .eql (.v 21) (.v 5)] [] t_lLockParts_16) (.ret [.c (.b false)]))) (.ret [.c (.b false)])
def t_lLockParts_18 : T :=
  .ite (.v 22) (.lets [.call 51 [.v 13, .v 4] 0] [] (.ite (.v 23) (.lets [.bin .eql (.v 17) (.c (.i .i64 0))] [] t_lLockParts_17) (.ret [.c (.b false)]))) (.ret [.c (.b false)])
def t_lLockParts_19 : T :=
  .lets [.call 54 [.v 16] 0, .call 54 [.v 16] 1] [] (.lets [.call 22 [.v 18, .v 1, .v 2] 0, .call 22 [.v 18, .v 1, .v 2] 1] [] (.lets [.bin .eql (.v 14) (.v 5)] [] t_lLockParts_18))
def t_lLockParts_20 : T :=
  .lets [.call 22 [.v 12, .v 1, .v 2] 0, .call 22 [.v 12, .v 1, .v 2] 1] [] (.lets [.bin .eql (.v 14) (.c (.i .i64 0))] [] (.ite (.v 15) t_lLockParts_15 (.lets [.call 34 [.v 0] 0,
  .call 34 [.v 0] 1] [] t_lLockParts_19)))
def t_lLockParts_21 : T :=
  .lets [.len (.v 0)] [] (.lets [.bin .add (.v 9) (.c (.i .i64 1))] [] (.lets [.call 53 [.v 3, .v 10] 0] [] (.lets [.sub 2 (.v 0) none (some (.v 11))] [] t_lLockParts_20)))
def t_lLockParts_22 : T :=
  .lets [.bin .neq (.v 5) (.c (.i .i64 0))] [] (.ite (.v 8) (.lets [.bin .neq (.v 5) (.c (.i .i64 8))] [] (.ite (.v 9) (.lets [.call 38 [] 0] [] (.ret [.v 10])) t_lLockParts_10))
  t_lLockParts_21)
def t_lLockParts : T :=
  .lets [.call 22 [.v 0, .v 1, .v 2] 0, .call 22 [.v 0, .v 1, .v 2] 1] [] (.lets [.call 38 [] 0] [] (.lets [.not (.v 6)] [] (.ite (.v 7) (.lets [.call 38 [] 0] [] (.ret [.v 8]))
  t_lLockParts_22)))
attribute [local irreducible] sp_eqInts sp_eqOps sp_lAt sp_lLocked sp_lockParse sp_lockPrint sp_lockRun
theorem m_lLockParts : Meets Tryd.prog sp_lLockParts 5 ⟨[.one, .one, .one, .one], [(false, [.scal])], true⟩ := by
  refine meets_fast (sp := (spsOf [(19, sp_eqOps), (22, sp_lockRun), (34, sp_lockPrint), (38, sp_lLocked), (51, sp_eqInts), (53, sp_lAt), (54, sp_lockParse)])) (sigs := sigsA) (cut := []) (hints := []) (fn := Tryd.f5) (t := t_lLockParts) (by kernel_rfl) (by kernel_rfl) (by kernel_rfl) ?_ ?_
  · exact (sig_of (L := [(19, sp_eqOps), (22, sp_lockRun), (34, sp_lockPrint), (38, sp_lLocked), (51, sp_eqInts), (53, sp_lAt), (54, sp_lockParse)]) ⟨sig_at rfl m_eqOps, sig_at rfl m_lockRun, sig_at rfl m_lockPrint, sig_at rfl m_lLocked, sig_at rfl m_eqInts, sig_at rfl m_lAt, sig_at rfl m_lockParse, trivial⟩)
  · rintro ds rs - h
    obtain ⟨⟨l, s, ht, k⟩, -, rfl, rfl⟩ := spD_some h
    clear h
    refine ⟨⟨1, ?_⟩, scalOk_1 rfl⟩
    show den _ _ t_lLockParts [.l 2 (l.map eOp), .l 1 (s.map eInt), I ht, I k] [] = ret true
    have a1 := sp_lockRun_at' l s ht
    have a2 := sp_lLocked_at
    unfold t_lLockParts
    have h8 : ¬ (8 : Int) ≠ 8 := fun h => h rfl
    have h0' : ¬ (0 : Int) ≠ 0 := fun h => h rfl
    by_cases h0 : (runOf l s ht).2 = 0 ∨ (runOf l s ht).2 = 8
    · obtain ⟨hl, hh0, hh1, hs⟩ := run_right h0
      have hl16 := opsCheck_len hl
      have hb := atI_bd (k := k) (n := (l.length : Int) + 1) (by omega)
      have a3 := sp_lAt_at k ((l.length : Int) + 1) (by omega)
      have hp := run_parts h0 (atI k ((l.length : Int) + 1)).toNat
      have a6 := sp_lockPrint_at l
      have hpr : printOf l = (opsText l, 0) := by with_unfolding_all exact if_neg (fun h => h hl)
      have a7 := sp_lockParse_at (opsText l)
      rw [hpr] at a6
      rw [read_text hl] at a7
      have a8 := sp_eqOps_self l
      generalize atI k ((l.length : Int) + 1) = m at *
      obtain ⟨l1, hl1⟩ : ∃ l1, l.take m.toNat = l1 := ⟨_, rfl⟩
      obtain ⟨l2, hl2⟩ : ∃ l2, l.drop m.toNat = l2 := ⟨_, rfl⟩
      rw [hl1, hl2] at hp
      have a4 := sp_lockRun_at' l1 s ht
      have a5 := sp_lockRun_at' l2 (runOf l1 s ht).1 ht
      have a9 := sp_eqInts_at (runOf l s ht).1 (runOf l s ht).1
      rw [decide_eq_true rfl] at a9
      by_cases hA : (runOf l1 s ht).2 = 0
      · rw [if_pos hA] at hp
        rw [hp] at a5
        generalize runOf l s ht = R at *
        obtain ⟨rs, re⟩ := R
        simp only at *
        rcases h0 with rfl | rfl
        all_goals
          repeat' (first | refine dq1 ?_ | refine dqc ?_ | refine dqm ?_ | refine dqk rfl (a1) ?_ | refine dqK rfl (a1) ?_ | refine dqk rfl (a2) ?_ | refine dqK rfl (a2) ?_ | refine dqk rfl (a3) ?_ | refine dqK rfl (a3) ?_ | refine dqk rfl (a4) ?_ | refine dqK rfl (a4) ?_ | refine dqk rfl (a5) ?_ | refine dqK rfl (a5) ?_ | refine dqk rfl (a6) ?_ | refine dqK rfl (a6) ?_ | refine dqk rfl (a7) ?_ | refine dqK rfl (a7) ?_ | refine dqk rfl (a8) ?_ | refine dqK rfl (a8) ?_ | refine dqk rfl (a9) ?_ | refine dqK rfl (a9) ?_ | refine den_let1 (dx_cutr rfl rfl (by omega) (by omega) (by assumption)) ?_ | exact den_ret rfl rfl | refine tR (fun h => ?_) fun h => ?_ | refine tB (fun h => ?_) fun h => ?_ | refine tC (fun h => ?_) fun h => ?_ | refine tN (fun h => ?_) fun h => ?_ | refine tF (fun h => ?_) fun h => ?_ | refine tG (fun h => ?_) fun h => ?_ | refine tP (fun h => ?_) fun h => ?_ | refine tQ (fun h => ?_) fun h => ?_ | refine tA (fun h => ?_) fun h => ?_ | refine tO (fun h => ?_) fun h => ?_ | refine tU (fun h => ?_) fun h => ?_ | refine tV (fun h => ?_) fun h => ?_ | refine dqT ?_ | refine dqF ?_ | refine den_t rfl ?_ | refine den_f rfl ?_ | refine dqTn ?_ | refine dqFn ?_)
      · rw [if_neg hA] at hp
        rw [hp] at a4 hA
        generalize runOf l s ht = R at *
        obtain ⟨rs, re⟩ := R
        simp only at *
        rcases h0 with rfl | rfl
        · exact absurd rfl hA
        · repeat' (first | refine dq1 ?_ | refine dqc ?_ | refine dqm ?_ | refine dqk rfl (a1) ?_ | refine dqK rfl (a1) ?_ | refine dqk rfl (a2) ?_ | refine dqK rfl (a2) ?_ | refine dqk rfl (a3) ?_ | refine dqK rfl (a3) ?_ | refine dqk rfl (a4) ?_ | refine dqK rfl (a4) ?_ | refine dqk rfl (a6) ?_ | refine dqK rfl (a6) ?_ | refine dqk rfl (a7) ?_ | refine dqK rfl (a7) ?_ | refine dqk rfl (a8) ?_ | refine dqK rfl (a8) ?_ | refine dqk rfl (a9) ?_ | refine dqK rfl (a9) ?_ | refine den_let1 (dx_cutr rfl rfl (by omega) (by omega) (by assumption)) ?_ | exact den_ret rfl rfl | refine tR (fun h => ?_) fun h => ?_ | refine tB (fun h => ?_) fun h => ?_ | refine tC (fun h => ?_) fun h => ?_ | refine tN (fun h => ?_) fun h => ?_ | refine tF (fun h => ?_) fun h => ?_ | refine tG (fun h => ?_) fun h => ?_ | refine tP (fun h => ?_) fun h => ?_ | refine tQ (fun h => ?_) fun h => ?_ | refine tA (fun h => ?_) fun h => ?_ | refine tO (fun h => ?_) fun h => ?_ | refine tU (fun h => ?_) fun h => ?_ | refine tV (fun h => ?_) fun h => ?_ | refine dqT ?_ | refine dqF ?_ | refine den_t rfl ?_ | refine den_f rfl ?_ | refine dqTn ?_ | refine dqFn ?_)
    · have hA : ¬ (runOf l s ht).2 = 0 := fun h => h0 (.inl h)
      have hB : ¬ (runOf l s ht).2 = 8 := fun h => h0 (.inr h)
      repeat' (first | refine dq1 ?_ | refine dqc ?_ | refine dqm ?_ | refine dqk rfl (a1) ?_ | refine dqK rfl (a1) ?_ | refine dqk rfl (a2) ?_ | refine dqK rfl (a2) ?_ | exact den_ret rfl rfl | refine tR (fun h => ?_) fun h => ?_ | refine tB (fun h => ?_) fun h => ?_ | refine tC (fun h => ?_) fun h => ?_ | refine tN (fun h => ?_) fun h => ?_ | refine tF (fun h => ?_) fun h => ?_ | refine tG (fun h => ?_) fun h => ?_ | refine tP (fun h => ?_) fun h => ?_ | refine tQ (fun h => ?_) fun h => ?_ | refine tA (fun h => ?_) fun h => ?_ | refine tO (fun h => ?_) fun h => ?_ | refine tU (fun h => ?_) fun h => ?_ | refine tV (fun h => ?_) fun h => ?_ | refine dqT ?_ | refine dqF ?_ | refine den_t rfl ?_ | refine den_f rfl ?_ | refine dqTn ?_ | refine dqFn ?_)
theorem lockParts_walk (l : List (Op)) (A_l : Option Addr) (n_l c_l : Nat) (s : List (Int)) (A_s : Option Addr) (n_s c_s : Nat) (ht : Int) (k : Int) (w : World) (h_l : Rds shOp w (Lt w.heap.size) l A_l n_l c_l) (h_s : Rds shInt w (Lt w.heap.size) s A_s n_s c_s) (ht_0 : -9223372036854775808 ≤ ht) (ht_1 : ht ≤ 9223372036854775807) (k_0 : -9223372036854775808 ≤ k) (k_1 : k ≤ 9223372036854775807) (hG : Glob w) :
    Calls Tryd.prog 5 #[.slice A_l n_l c_l, .slice A_s n_s c_s, .int .i64 ht, .int .i64 k] w fun e w' => e = .returned (.bool true) ∧ Below w.heap.size w w' :=
  meets_calls (F := Lt w.heap.size) (us := [.slice A_l n_l c_l, .slice A_s n_s c_s, .int .i64 ht, .int .i64 k]) rfl (en_of (fn := Tryd.f5) (by kernel_rfl) (by kernel_rfl) (by kernel_rfl)) m_lLockParts ⟨fun _ h => h, hG⟩ (spD_at (f := fun _ => true) (l, s, ht, k) trivial)
    (pks_mk_one (rds_rep she_op h_l) (pks_mk_one (rds_rep she_int h_s) (pks_mk_one (.i _ _ (wrap_i64 ⟨ht_0, ht_1⟩)) (pks_mk_one (.i _ _ (wrap_i64 ⟨k_0, k_1⟩)) pks_mk_nil))))
end Go.Proofs.YtajaacgchhmbjaaDoor
