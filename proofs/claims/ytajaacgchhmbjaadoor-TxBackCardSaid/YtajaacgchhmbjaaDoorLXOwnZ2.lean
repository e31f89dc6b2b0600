/- Own texts, put together by wip/bundle.py: VL7, VS4, VB4, VU3, VU4, VB5, VW9. -/
import Derived.Test.YtajaacgchhmbjaaDoorLXOwnB
import Derived.Test.YtajaacgchhmbjaaDoorLXOwnR
import Derived.Test.YtajaacgchhmbjaaDoorLXOwnS
import Derived.Test.YtajaacgchhmbjaaDoorLXOwnV3
import Derived.Test.YtajaacgchhmbjaaDoorLXOwnZ1
namespace Go.Proofs.YtajaacgchhmbjaaDoor
open Go.RowKit
open Go.Lib (itoa atoiAll atoiSat)
set_option linter.unusedVariables false
set_option linter.unusedSimpArgs false
set_option maxRecDepth 100000
set_option maxHeartbeats 4000000
section
variable {sp : Nat → Spec} {N : Nat} {E E' : Env} {ks : List (List Dt → Option (List Dt))} {res : Option (List Dt)}
theorem dx_ise {neg : Bool} {a : Atom} {x : Bool} (ha : a.val E = some (.e x)) : denX sp E (.ise neg a) = some (.b (x == neg)) := by simp only [denX, ha]
end
theorem whole_none {w : List UInt8} (h : (atoiOf w).2.is = true) : wholeOf w = none := by
  unfold atoiOf at h
  unfold wholeOf
  cases ha : atoiAll w with
  | ok v => rw [ha] at h; cases h
  | _ => rfl
theorem whole_some {w : List UInt8} (h : (atoiOf w).2.is = false) : wholeOf w = if itoa (atoiOf w).1 = w then some (atoiOf w).1 else none := by
  unfold atoiOf at h ⊢
  unfold wholeOf
  cases ha : atoiAll w with
  | ok v => rfl
  | _ => rw [ha] at h; cases h
theorem nm_get (k : Nat) (h : k < 14) : (opNames.map Dt.s)[(k : Int).toNat]? = some (.s ((opNames[k]?).getD [])) := by
  have hl : opNames.length = 14 := rfl
  rw [Int.toNat_natCast, List.getElem?_map, List.getElem?_eq_getElem (by omega)]
  rfl
theorem kindGo_bd (w : List UInt8) : ∀ (l : List (List UInt8)) (k r : Int), 0 ≤ k → 0 ≤ r → r ≤ 13 → k + l.length ≤ 14 → 0 ≤ kindGo w k r l ∧ kindGo w k r l ≤ 13
  | [], k, r, _, h0, h1, _ => ⟨h0, h1⟩
  | n :: l, k, r, hk, h0, h1, h2 => by
    rw [kindGo]
    simp only [List.length_cons] at h2
    refine kindGo_bd w l (k + 1) _ (by omega) (by split <;> omega) (by split <;> omega) (by omega)
noncomputable def sp_lockParse : Spec := spD (fun _ : List UInt8 => True) fun s => readOf s
theorem sp_lockParse_at (s : List UInt8) : sp_lockParse [.s s] = some [.l 2 ((readOf s).1.map eOp), I (readOf s).2] := spD_at (f := fun s : List UInt8 => readOf s) s trivial
def readGo (acc : List Op) (ws : List (List UInt8)) : List Op × Int := match wordsOp ws with
  | none => ([], 1)
  | some l => if opsCheck (acc ++ l) ≠ 0 then ([], opsCheck (acc ++ l)) else (acc ++ l, 0)
theorem readGo_cons (acc : List Op) (w : List UInt8) (ws : List (List UInt8)) : readGo acc (w :: ws) = match wordOp w with
  | none => ([], 1)
  | some o => readGo (acc ++ [o]) ws := by
  unfold readGo
  rw [wordsOp]
  cases wordOp w with
  | none => rfl
  | some o =>
    cases wordsOp ws with
    | none => rfl
    | some l => simp only [Option.map_some, List.append_assoc, List.singleton_append]
theorem readOf_go (s : List UInt8) : readOf s = if 4000 < (s.length : Int) then ([], 2) else if s = [] then ([], 0) else readGo [] (cutAt 32 s) := by
  unfold readOf readGo
  rfl
theorem readGo_nil (acc : List Op) : readGo acc [] = if opsCheck acc ≠ 0 then ([], opsCheck acc) else (acc, 0) := by
  unfold readGo
  rw [wordsOp]
  simp only [List.append_nil]
theorem wordOp_zero {w : List UInt8} (h : kindOf w = 0) : wordOp w = (wholeOf w).map fun n => ⟨1, n⟩ := if_pos h
theorem wordOp_kind {w : List UInt8} (h : ¬ kindOf w = 0) : wordOp w = some ⟨kindOf w, 0⟩ := if_neg h
theorem kindGo_snoc (w n : List UInt8) : ∀ (l : List (List UInt8)) (k r : Int), kindGo w k r (l ++ [n]) = if n = w ∧ n ≠ [] then k + l.length else kindGo w k r l
  | [], k, r => by simp only [List.nil_append, kindGo, List.length_nil]; split <;> simp
  | m :: l, k, r => by
    rw [List.cons_append, kindGo, kindGo, kindGo_snoc w n l (k + 1)]
    split
    · simp only [List.length_cons]; omega
    · rfl
theorem kind_next (w : List UInt8) (i : Nat) (h : i < 14) : kindGo w 0 0 (opNames.take (i + 1)) = if (opNames[i]?).getD [] = w ∧ (opNames[i]?).getD [] ≠ [] then (i : Int) else kindGo w 0 0 (opNames.take i) := by
  have hl : opNames.length = 14 := rfl
  rw [List.take_add_one, List.getElem?_eq_getElem (by omega)]
  simp only [Option.toList_some, Option.getD_some]
  rw [kindGo_snoc, List.length_take]
  split
  · omega
  · rfl
attribute [local irreducible] den denX denXs holdXs
attribute [local irreducible] specOf spD ordP itoa opsCheck openOf joinC sp_lockNames readGo atoiOf cutAt wordOp kindGo kindOf
def t_lockParse_0 : T :=
  .ite (.v 32) (.lets [.bin .add (.v 26) (.c (.i .i64 1))] [] (.again 1 [.v 33, .v 26, .v 28])) (.lets [.bin .add (.v 26) (.c (.i .i64 1))] [] (.again 1 [.v 33, .v 27, .v 28]))
def t_lockParse_1 : T :=
  .lets [.bin .eql (.v 30) (.v 11)] [] (.ite (.v 31) (.lets [.bin .neq (.v 30) (.c (.s []))] [] t_lockParse_0) (.lets [.bin .add (.v 26) (.c (.i .i64 1))] [] (.again 1 [.v 32, .v 27,
  .v 28])))
def t_lockParse_2 : T :=
  .lets [.mk 2 [[.c (.i .i64 1), .v 31]]] [] (.lets [.app 2 (.v 8) (.v 36)] [] (.lets [.bin .add (.v 9) (.c (.i .i64 1))] [] (.again 0 [.v 6, .v 7, .v 37, .v 38])))
def t_lockParse_3 : T :=
  .ite (.v 33) (.ret [.c (.nil 2), .c (.i .i64 1)]) (.lets [.call 31 [.v 31] 0] [] (.lets [.bin .neq (.v 34) (.v 11)] [] (.ite (.v 35) (.ret [.c (.nil 2), .c (.i .i64 1)])
  t_lockParse_2)))
def t_lockParse_4 : T :=
  .ite (.v 30) (.lets [.call 42 [.v 11] 0, .call 42 [.v 11] 1] [] (.lets [.ise true (.v 32)] [] t_lockParse_3)) (.lets [.mk 2 [[.v 27, .v 28]]] [] (.lets [.app 2 (.v 8) (.v 31)] []
  (.lets [.bin .add (.v 9) (.c (.i .i64 1))] [] (.again 0 [.v 6, .v 7, .v 32, .v 33]))))
def t_lockParse_5 : T :=
  .ite (.v 29) (.lets [.sel [.v 12, .v 13, .v 14, .v 15, .v 16, .v 17, .v 18, .v 19, .v 20, .v 21, .v 22, .v 23, .v 24, .v 25] (.v 26)] [] t_lockParse_1) (.lets [.bin .eql (.v 27) (.c
  (.i .i64 0))] [] t_lockParse_4)
def t_lockParse_6 : T :=
  .lets [.call 33 [] 0, .call 33 [] 1, .call 33 [] 2, .call 33 [] 3, .call 33 [] 4, .call 33 [] 5, .call 33 [] 6, .call 33 [] 7, .call 33 [] 8, .call 33 [] 9, .call 33 [] 10, .call 33
  [] 11, .call 33 [] 12, .call 33 [] 13] [] (.loop [.c (.i .i64 0), .c (.i .i64 0), .c (.i .i64 0)] (.lets [.bin .lss (.v 26) (.c (.i .i64 14))] [] t_lockParse_5))
def t_lockParse_7 : T :=
  .ite (.v 10) (.lets [] [.inr 1 (.v 4) (.v 9)] (.lets [.idx (.v 4) (.v 9) 0] [] t_lockParse_6)) (.lets [.call 7 [.v 8] 0] [] (.lets [.bin .neq (.v 11) (.c (.i .i64 0))] [] (.ite (.v
  12) (.ret [.c (.nil 2), .v 11]) (.ret [.v 8, .c (.i .i64 0)]))))
def t_lockParse_8 : T :=
  .lets [.call 41 [.v 0, .c (.s [32])] 0] [] (.lets [.len (.v 4)] [] (.loop [.c (.nil 2), .c (.i .i64 0), .c (.nil 2), .c (.i .i64 0)] (.lets [.bin .lss (.v 9) (.v 5)] []
  t_lockParse_7)))
def t_lockParse_9 : T :=
  .lets [.bin .gtr (.v 1) (.c (.i .i64 4000))] [] (.ite (.v 2) (.ret [.c (.nil 2), .c (.i .i64 2)]) (.lets [.bin .eql (.v 0) (.c (.s []))] [] (.ite (.v 3) (.ret [.c (.nil 2), .c (.i
  .i64 0)]) t_lockParse_8)))
def t_lockParse : T :=
  .lets [.slen (.v 0)] [] t_lockParse_9
attribute [local irreducible] sp_atoi sp_itoa sp_lockCheck sp_strSplit
theorem m_lockParse : Meets Tryd.prog sp_lockParse 23 ⟨[.one], [(false, [.fresh 40 2]), (false, [.scal])], false⟩ := by
  refine meets_fast (sp := (spsOf [(7, sp_lockCheck), (31, sp_itoa), (33, sp_lockNames), (41, sp_strSplit), (42, sp_atoi)])) (sigs := sigsA) (cut := []) (hints := [⟨7, [.r 2 40 2, .t 3, .r 4 40 2, .t 21]⟩, ⟨11, [.t 27, .o 7]⟩]) (fn := Tryd.f23) (t := t_lockParse) (by kernel_rfl) (by kernel_rfl) (by kernel_rfl) ?_ ?_
  · exact (sig_of (L := [(7, sp_lockCheck), (31, sp_itoa), (33, sp_lockNames), (41, sp_strSplit), (42, sp_atoi)]) ⟨sig_at rfl m_lockCheck, sig_at rfl m_itoa, sig_at rfl m_lockNames, sig_at rfl m_strSplit, sig_at rfl m_atoi, trivial⟩)
  · rintro ds rs hok h
    obtain ⟨s, -, rfl, rfl⟩ := spD_some h
    clear h
    refine ⟨⟨s.length + 20, ?_⟩, ?_⟩
    · show den _ _ t_lockParse [.s s] [] = ret (readOf s)
      rw [readOf_go]
      unfold t_lockParse
      repeat' (first | refine dq1 ?_ | refine dqc ?_ | refine dqm ?_ | exact den_ret rfl rfl | refine tR (fun h => ?_) fun h => ?_ | refine tB (fun h => ?_) fun h => ?_ | refine tC (fun h => ?_) fun h => ?_ | refine tN (fun h => ?_) fun h => ?_ | refine tF (fun h => ?_) fun h => ?_ | refine tG (fun h => ?_) fun h => ?_ | refine tP (fun h => ?_) fun h => ?_ | refine tQ (fun h => ?_) fun h => ?_ | refine tA (fun h => ?_) fun h => ?_ | refine tO (fun h => ?_) fun h => ?_ | refine tU (fun h => ?_) fun h => ?_ | refine tV (fun h => ?_) fun h => ?_ | refine dqT ?_ | refine dqF ?_ | refine den_t rfl ?_ | refine den_f rfl ?_ | refine dqTn ?_ | refine dqFn ?_)
      have hs4 : s.length ≤ 4000 := by omega
      have hcl := cutAt_len 32 s
      repeat' (first | refine dq1 ?_ | refine dqc ?_ | refine dqm ?_ | refine dqk rfl (sp_strSplit_at s 32 (by omega)) ?_ | refine dqK rfl (sp_strSplit_at s 32 (by omega)) ?_ | exact den_ret rfl rfl | refine tR (fun h => ?_) fun h => ?_ | refine tB (fun h => ?_) fun h => ?_ | refine tC (fun h => ?_) fun h => ?_ | refine tN (fun h => ?_) fun h => ?_ | refine tF (fun h => ?_) fun h => ?_ | refine tG (fun h => ?_) fun h => ?_ | refine tP (fun h => ?_) fun h => ?_ | refine tQ (fun h => ?_) fun h => ?_ | refine tA (fun h => ?_) fun h => ?_ | refine tO (fun h => ?_) fun h => ?_ | refine tU (fun h => ?_) fun h => ?_ | refine tV (fun h => ?_) fun h => ?_ | refine dqT ?_ | refine dqF ?_ | refine den_t rfl ?_ | refine den_f rfl ?_ | refine dqTn ?_ | refine dqFn ?_)
      (refine den_range (fun (a : List Op) k => [.l 2 [], I 0, .l 2 (a.map eOp), I k]) (fun (a : List Op) _ (r : List (List UInt8)) => readGo a r) (fun a k => a.length = k) [] (cutAt 32 s) ?_ ?_ ?_ ?_ ?_; rfl; exact rfl; omega)
      · rintro a k w r hx hd hk ha again hag
        have hw := hcl.2 w (List.mem_of_getElem? hx)
        rw [readGo_cons]
        have hk0 := (kindGo_bd w opNames 0 0 (by decide) (by decide) (by decide) (by decide)).1
        repeat' (first | refine dq1 ?_ | refine dqc ?_ | refine dqm ?_ | refine dqk rfl (sp_lockNames_at) ?_ | refine dqK rfl (sp_lockNames_at) ?_ | exact den_ret rfl rfl | refine tR (fun h => ?_) fun h => ?_ | refine tB (fun h => ?_) fun h => ?_ | refine tC (fun h => ?_) fun h => ?_ | refine tN (fun h => ?_) fun h => ?_ | refine tF (fun h => ?_) fun h => ?_ | refine tG (fun h => ?_) fun h => ?_ | refine tP (fun h => ?_) fun h => ?_ | refine tQ (fun h => ?_) fun h => ?_ | refine tA (fun h => ?_) fun h => ?_ | refine tO (fun h => ?_) fun h => ?_ | refine tU (fun h => ?_) fun h => ?_ | refine tV (fun h => ?_) fun h => ?_ | refine dqT ?_ | refine dqF ?_ | refine den_t rfl ?_ | refine den_f rfl ?_ | refine dqTn ?_ | refine dqFn ?_)
        (refine den_loop' (st := fun i => [I i, I (kindGo w 0 0 (opNames.take i)), I 0]) (n := 14) (by with_unfolding_all rfl) (by omega) ?_ ?_)
        · intro i hi again' hag'
          have hn := nm_get i hi
          have hag' : again' [I ((i : Int) + 1), I (kindGo w 0 0 (opNames.take (i + 1))), I 0] = _ := hag'
          rw [kind_next w i hi] at hag'
          generalize (opNames[i]?).getD [] = nm at *
          repeat' (first | refine dq1 ?_ | refine dqc ?_ | refine dqm ?_ | refine den_let1 (dx_sel rfl rfl (by omega) hn) ?_ | exact den_ret rfl rfl | refine tR (fun h => ?_) fun h => ?_ | refine tB (fun h => ?_) fun h => ?_ | refine tC (fun h => ?_) fun h => ?_ | refine tN (fun h => ?_) fun h => ?_ | refine tF (fun h => ?_) fun h => ?_ | refine tG (fun h => ?_) fun h => ?_ | refine tP (fun h => ?_) fun h => ?_ | refine tQ (fun h => ?_) fun h => ?_ | refine tA (fun h => ?_) fun h => ?_ | refine tO (fun h => ?_) fun h => ?_ | refine tU (fun h => ?_) fun h => ?_ | refine tV (fun h => ?_) fun h => ?_ | refine dqT ?_ | refine dqF ?_ | refine den_t rfl ?_ | refine den_f rfl ?_ | refine dqTn ?_ | refine dqFn ?_)
          refine den_sp rfl (fun h1 => ?_) (fun h1 => ?_)
          · repeat' (first | refine dq1 ?_ | refine dqc ?_ | refine dqm ?_ | exact den_ret rfl rfl | refine tR (fun h => ?_) fun h => ?_ | refine tB (fun h => ?_) fun h => ?_ | refine tC (fun h => ?_) fun h => ?_ | refine tN (fun h => ?_) fun h => ?_ | refine tF (fun h => ?_) fun h => ?_ | refine tG (fun h => ?_) fun h => ?_ | refine tP (fun h => ?_) fun h => ?_ | refine tQ (fun h => ?_) fun h => ?_ | refine tA (fun h => ?_) fun h => ?_ | refine tO (fun h => ?_) fun h => ?_ | refine tU (fun h => ?_) fun h => ?_ | refine tV (fun h => ?_) fun h => ?_ | refine dqT ?_ | refine dqF ?_ | refine den_t rfl ?_ | refine den_f rfl ?_ | refine dqTn ?_ | refine dqFn ?_)
            refine den_sp rfl (fun h2 => ?_) (fun h2 => ?_)
            · rw [if_pos ⟨h1, h2⟩] at hag'
              repeat' (first | refine dq1 ?_ | refine dqc ?_ | refine dqm ?_ | exact den_ret rfl rfl | refine tR (fun h => ?_) fun h => ?_ | refine tB (fun h => ?_) fun h => ?_ | refine tC (fun h => ?_) fun h => ?_ | refine tN (fun h => ?_) fun h => ?_ | refine tF (fun h => ?_) fun h => ?_ | refine tG (fun h => ?_) fun h => ?_ | refine tP (fun h => ?_) fun h => ?_ | refine tQ (fun h => ?_) fun h => ?_ | refine tA (fun h => ?_) fun h => ?_ | refine tO (fun h => ?_) fun h => ?_ | refine tU (fun h => ?_) fun h => ?_ | refine tV (fun h => ?_) fun h => ?_ | refine dqT ?_ | refine dqF ?_ | refine den_t rfl ?_ | refine den_f rfl ?_ | refine dqTn ?_ | refine dqFn ?_)
              exact den_again rfl rfl hag'
            · rw [if_neg (fun h => h2 h.2)] at hag'
              repeat' (first | refine dq1 ?_ | refine dqc ?_ | refine dqm ?_ | exact den_ret rfl rfl | refine tR (fun h => ?_) fun h => ?_ | refine tB (fun h => ?_) fun h => ?_ | refine tC (fun h => ?_) fun h => ?_ | refine tN (fun h => ?_) fun h => ?_ | refine tF (fun h => ?_) fun h => ?_ | refine tG (fun h => ?_) fun h => ?_ | refine tP (fun h => ?_) fun h => ?_ | refine tQ (fun h => ?_) fun h => ?_ | refine tA (fun h => ?_) fun h => ?_ | refine tO (fun h => ?_) fun h => ?_ | refine tU (fun h => ?_) fun h => ?_ | refine tV (fun h => ?_) fun h => ?_ | refine dqT ?_ | refine dqF ?_ | refine den_t rfl ?_ | refine den_f rfl ?_ | refine dqTn ?_ | refine dqFn ?_)
              exact den_again rfl rfl hag'
          · rw [if_neg (fun h => h1 h.1)] at hag'
            repeat' (first | refine dq1 ?_ | refine dqc ?_ | refine dqm ?_ | exact den_ret rfl rfl | refine tR (fun h => ?_) fun h => ?_ | refine tB (fun h => ?_) fun h => ?_ | refine tC (fun h => ?_) fun h => ?_ | refine tN (fun h => ?_) fun h => ?_ | refine tF (fun h => ?_) fun h => ?_ | refine tG (fun h => ?_) fun h => ?_ | refine tP (fun h => ?_) fun h => ?_ | refine tQ (fun h => ?_) fun h => ?_ | refine tA (fun h => ?_) fun h => ?_ | refine tO (fun h => ?_) fun h => ?_ | refine tU (fun h => ?_) fun h => ?_ | refine tV (fun h => ?_) fun h => ?_ | refine dqT ?_ | refine dqF ?_ | refine den_t rfl ?_ | refine den_f rfl ?_ | refine dqTn ?_ | refine dqFn ?_)
            exact den_again rfl rfl hag'
        · intro again'
          have ek : kindGo w 0 0 (opNames.take 14) = kindOf w := by with_unfolding_all rfl
          simp only [ek]
          have hko : 0 ≤ kindOf w := by with_unfolding_all exact hk0
          have a9 := sp_atoi_at w (by omega)
          repeat' (first | refine dq1 ?_ | refine dqc ?_ | refine dqm ?_ | exact den_ret rfl rfl | refine tR (fun h => ?_) fun h => ?_ | refine tB (fun h => ?_) fun h => ?_ | refine tC (fun h => ?_) fun h => ?_ | refine tN (fun h => ?_) fun h => ?_ | refine tF (fun h => ?_) fun h => ?_ | refine tG (fun h => ?_) fun h => ?_ | refine tP (fun h => ?_) fun h => ?_ | refine tQ (fun h => ?_) fun h => ?_ | refine tA (fun h => ?_) fun h => ?_ | refine tO (fun h => ?_) fun h => ?_ | refine tU (fun h => ?_) fun h => ?_ | refine tV (fun h => ?_) fun h => ?_ | refine dqT ?_ | refine dqF ?_ | refine den_t rfl ?_ | refine den_f rfl ?_ | refine dqTn ?_ | refine dqFn ?_)
          refine den_sp rfl (fun h1 => ?_) (fun h1 => ?_)
          · rw [wordOp_zero h1]
            cases hi : (atoiOf w).2.is with
            | true =>
              rw [whole_none hi]
              rw [hi] at a9
              repeat' (first | refine dq1 ?_ | refine dqc ?_ | refine dqm ?_ | refine dqk rfl (a9) ?_ | refine dqK rfl (a9) ?_ | refine den_let1 (dx_ise rfl) ?_ | exact den_ret rfl rfl | refine tR (fun h => ?_) fun h => ?_ | refine tB (fun h => ?_) fun h => ?_ | refine tC (fun h => ?_) fun h => ?_ | refine tN (fun h => ?_) fun h => ?_ | refine tF (fun h => ?_) fun h => ?_ | refine tG (fun h => ?_) fun h => ?_ | refine tP (fun h => ?_) fun h => ?_ | refine tQ (fun h => ?_) fun h => ?_ | refine tA (fun h => ?_) fun h => ?_ | refine tO (fun h => ?_) fun h => ?_ | refine tU (fun h => ?_) fun h => ?_ | refine tV (fun h => ?_) fun h => ?_ | refine dqT ?_ | refine dqF ?_ | refine den_t rfl ?_ | refine den_f rfl ?_ | refine dqTn ?_ | refine dqFn ?_)
            | false =>
              rw [whole_some hi]
              rw [hi] at a9
              generalize (atoiOf w).1 = n at *
              repeat' (first | refine dq1 ?_ | refine dqc ?_ | refine dqm ?_ | refine dqk rfl (a9) ?_ | refine dqK rfl (a9) ?_ | refine dqk rfl (sp_itoa_at _) ?_ | refine dqK rfl (sp_itoa_at _) ?_ | refine den_let1 (dx_ise rfl) ?_ | exact den_ret rfl rfl | refine tR (fun h => ?_) fun h => ?_ | refine tB (fun h => ?_) fun h => ?_ | refine tC (fun h => ?_) fun h => ?_ | refine tN (fun h => ?_) fun h => ?_ | refine tF (fun h => ?_) fun h => ?_ | refine tG (fun h => ?_) fun h => ?_ | refine tP (fun h => ?_) fun h => ?_ | refine tQ (fun h => ?_) fun h => ?_ | refine tA (fun h => ?_) fun h => ?_ | refine tO (fun h => ?_) fun h => ?_ | refine tU (fun h => ?_) fun h => ?_ | refine tV (fun h => ?_) fun h => ?_ | refine dqT ?_ | refine dqF ?_ | refine den_t rfl ?_ | refine den_f rfl ?_ | refine dqTn ?_ | refine dqFn ?_)
              refine den_sp rfl (fun h2 => ?_) (fun h2 => ?_)
              · rw [if_neg h2]
                repeat' (first | refine dq1 ?_ | refine dqc ?_ | refine dqm ?_ | exact den_ret rfl rfl | refine tR (fun h => ?_) fun h => ?_ | refine tB (fun h => ?_) fun h => ?_ | refine tC (fun h => ?_) fun h => ?_ | refine tN (fun h => ?_) fun h => ?_ | refine tF (fun h => ?_) fun h => ?_ | refine tG (fun h => ?_) fun h => ?_ | refine tP (fun h => ?_) fun h => ?_ | refine tQ (fun h => ?_) fun h => ?_ | refine tA (fun h => ?_) fun h => ?_ | refine tO (fun h => ?_) fun h => ?_ | refine tU (fun h => ?_) fun h => ?_ | refine tV (fun h => ?_) fun h => ?_ | refine dqT ?_ | refine dqF ?_ | refine den_t rfl ?_ | refine den_f rfl ?_ | refine dqTn ?_ | refine dqFn ?_)
              · have h2 := Decidable.not_not.1 h2
                rw [if_pos h2]
                simp only [Option.map_some]
                repeat' (first | refine dq1 ?_ | refine dqc ?_ | refine dqm ?_ | refine den_let1 (den_mk rfl rfl (by simp)) ?_ | refine den_let1 (dx_app1 (x := ⟨1, n⟩) (fun _ => rfl) rfl rfl (by omega)) ?_ | exact den_ret rfl rfl | refine tR (fun h => ?_) fun h => ?_ | refine tB (fun h => ?_) fun h => ?_ | refine tC (fun h => ?_) fun h => ?_ | refine tN (fun h => ?_) fun h => ?_ | refine tF (fun h => ?_) fun h => ?_ | refine tG (fun h => ?_) fun h => ?_ | refine tP (fun h => ?_) fun h => ?_ | refine tQ (fun h => ?_) fun h => ?_ | refine tA (fun h => ?_) fun h => ?_ | refine tO (fun h => ?_) fun h => ?_ | refine tU (fun h => ?_) fun h => ?_ | refine tV (fun h => ?_) fun h => ?_ | refine dqT ?_ | refine dqF ?_ | refine den_t rfl ?_ | refine den_f rfl ?_ | refine dqTn ?_ | refine dqFn ?_)
                exact den_again rfl rfl (hag (a ++ [⟨1, n⟩]) (by rw [List.length_append, ha]; rfl))
          · rw [wordOp_kind h1]
            simp only
            repeat' (first | refine dq1 ?_ | refine dqc ?_ | refine dqm ?_ | refine den_let1 (den_mk rfl rfl (by simp)) ?_ | refine den_let1 (dx_app1 (x := ⟨kindOf w, 0⟩) (fun _ => rfl) rfl rfl (by omega)) ?_ | exact den_ret rfl rfl | refine tR (fun h => ?_) fun h => ?_ | refine tB (fun h => ?_) fun h => ?_ | refine tC (fun h => ?_) fun h => ?_ | refine tN (fun h => ?_) fun h => ?_ | refine tF (fun h => ?_) fun h => ?_ | refine tG (fun h => ?_) fun h => ?_ | refine tP (fun h => ?_) fun h => ?_ | refine tQ (fun h => ?_) fun h => ?_ | refine tA (fun h => ?_) fun h => ?_ | refine tO (fun h => ?_) fun h => ?_ | refine tU (fun h => ?_) fun h => ?_ | refine tV (fun h => ?_) fun h => ?_ | refine dqT ?_ | refine dqF ?_ | refine den_t rfl ?_ | refine den_f rfl ?_ | refine dqTn ?_ | refine dqFn ?_)
            exact den_again rfl rfl (hag (a ++ [⟨kindOf w, 0⟩]) (by rw [List.length_append, ha]; rfl))
      · rintro a ha again
        rw [readGo_nil]
        repeat' (first | refine dq1 ?_ | refine dqc ?_ | refine dqm ?_ | refine dqk rfl (sp_lockCheck_at _) ?_ | refine dqK rfl (sp_lockCheck_at _) ?_ | exact den_ret rfl rfl | refine tR (fun h => ?_) fun h => ?_ | refine tB (fun h => ?_) fun h => ?_ | refine tC (fun h => ?_) fun h => ?_ | refine tN (fun h => ?_) fun h => ?_ | refine tF (fun h => ?_) fun h => ?_ | refine tG (fun h => ?_) fun h => ?_ | refine tP (fun h => ?_) fun h => ?_ | refine tQ (fun h => ?_) fun h => ?_ | refine tA (fun h => ?_) fun h => ?_ | refine tO (fun h => ?_) fun h => ?_ | refine tU (fun h => ?_) fun h => ?_ | refine tV (fun h => ?_) fun h => ?_ | refine dqT ?_ | refine dqF ?_ | refine den_t rfl ?_ | refine den_f rfl ?_ | refine dqTn ?_ | refine dqFn ?_)
    · intro i d hi hd
      match i, hi, hd with
      | 0, hi, _ => simp [cfsOf] at hi
      | 1, _, hd => simp only [Enc.e, eInt, List.cons_append, List.nil_append, List.getElem?_cons_zero, List.getElem?_cons_succ, Option.some.injEq] at hd; subst hd; rfl
      | i + 2, hi, hd => simp [cfsOf] at hi
end Go.Proofs.YtajaacgchhmbjaaDoor
namespace Go.Proofs.YtajaacgchhmbjaaDoor
open Go.RowKit
set_option linter.unusedVariables false
set_option linter.unusedSimpArgs false
end Go.Proofs.YtajaacgchhmbjaaDoor
namespace Go.Proofs.YtajaacgchhmbjaaDoor
open Go.RowKit
open Go.Lib (itoa)
set_option linter.unusedVariables false
set_option linter.unusedSimpArgs false
set_option maxRecDepth 100000
set_option maxHeartbeats 4000000
def numI (w : List UInt8) : Int × Bool := ((atoiOf w).1, !(atoiOf w).2.is && decide (itoa (atoiOf w).1 = w))
theorem numI_of (w : List UInt8) : wholeOf w = if (numI w).2 = true then some (numI w).1 else none := by
  unfold numI
  cases hi : (atoiOf w).2.is with
  | true => rw [whole_none hi]; rfl
  | false =>
    rw [whole_some hi]
    by_cases h : itoa (atoiOf w).1 = w
    · rw [if_pos h, if_pos (by simpa using h)]
    · rw [if_neg h, if_neg (by simpa using h)]
def numsGo (o : List Out) (i : List In) (x : List UInt8) (a : List Int) (ws : List (List UInt8)) : Option (List Out × List In) := match numsOf ws with
  | none => none
  | some n => lineEnd o i x (a ++ n)
theorem numsGo_cons (o : List Out) (i : List In) (x : List UInt8) (a : List Int) (w : List UInt8) (ws : List (List UInt8)) : numsGo o i x a (w :: ws) = if (numI w).2 = true then numsGo o i x (a ++ [(numI w).1]) ws else none := by
  unfold numsGo
  rw [numsOf, numI_of w]
  by_cases h : (numI w).2 = true
  · rw [if_pos h, if_pos h]
    simp only
    cases numsOf ws with
    | none => rfl
    | some l => simp
  · rw [if_neg h, if_neg h]
theorem numsGo_nil (o : List Out) (i : List In) (x : List UInt8) (a : List Int) : numsGo o i x a [] = lineEnd o i x a := by
  unfold numsGo; rw [numsOf]; simp
theorem lineStep_go (o : List Out) (i : List In) (x : List UInt8) : lineStep o i x = numsGo o i x [] ((cutAt 32 (Go.Lib.cut x [58]).1).drop 1) := by
  unfold lineStep numsGo
  cases numsOf ((cutAt 32 (Go.Lib.cut x [58]).1).drop 1) with
  | none => rfl
  | some n => simp
def finish (n : Int) (r : List (List UInt8)) (p : Option (List Out × List In)) : Tx × Int := match p with
  | none => (zTx, 1)
  | some p => linesGo n p.1 p.2 r
theorem linesGo_cons (n : Int) (o : List Out) (i : List In) (x : List UInt8) (r : List (List UInt8)) : linesGo n o i (x :: r) = finish n r (numsGo o i x [] ((cutAt 32 (Go.Lib.cut x [58]).1).drop 1)) := by
  rw [linesGo, lineStep_go]
  rfl
theorem finish_end (n : Int) (r : List (List UInt8)) (o : List Out) (i : List In) (x : List UInt8) (a : List Int) {hd0 q : List UInt8} {fd : Bool} {v0 : List UInt8} {vs : List (List UInt8)} {l : List Op} {e : Int} (hc : Go.Lib.cut x [58] = (hd0, q, fd)) (hv : cutAt 32 hd0 = v0 :: vs) (hr : readOf q = (l, e)) : finish n r (lineEnd o i x a) =
  if e ≠ 0 then (zTx, 1) else if Go.Lib.contains x [58] = false then (zTx, 1) else
  if v0 = tIn ∧ a.length = 2 ∧ o.length = 0 then linesGo n o (i ++ [⟨⟨a.getD 0 0, a.getD 1 0⟩, l⟩]) r else
  if v0 = tOut ∧ a.length = 1 then linesGo n (o ++ [⟨a.getD 0 0, l⟩]) i r else (zTx, 1) := by
  have e1 : lineEnd o i x a = if e ≠ 0 then none else if Go.Lib.contains x [58] = false then none else
    if v0 = tIn ∧ a.length = 2 ∧ o.length = 0 then some (o, i ++ [⟨⟨a.getD 0 0, a.getD 1 0⟩, l⟩]) else
    if v0 = tOut ∧ a.length = 1 then some (o ++ [⟨a.getD 0 0, l⟩], i) else none := by
    unfold lineEnd
    rw [hc]
    show (if (readOf q).2 ≠ 0 then none else if Go.Lib.contains x [58] = false then none else
      if (cutAt 32 hd0).headD [] = tIn ∧ a.length = 2 ∧ o.length = 0 then some (o, i ++ [⟨⟨a.getD 0 0, a.getD 1 0⟩, (readOf q).1⟩]) else
      if (cutAt 32 hd0).headD [] = tOut ∧ a.length = 1 then some (o ++ [⟨a.getD 0 0, (readOf q).1⟩], i) else none) = _
    rw [hr, hv]
    rfl
  rw [e1]
  by_cases h1 : e ≠ 0
  · rw [if_pos h1, if_pos h1]; rfl
  rw [if_neg h1, if_neg h1]
  by_cases h2 : Go.Lib.contains x [58] = false
  · rw [if_pos h2, if_pos h2]; rfl
  rw [if_neg h2, if_neg h2]
  by_cases h3 : v0 = tIn ∧ a.length = 2 ∧ o.length = 0
  · rw [if_pos h3, if_pos h3]; rfl
  rw [if_neg h3, if_neg h3]
  by_cases h4 : v0 = tOut ∧ a.length = 1
  · rw [if_pos h4, if_pos h4]; rfl
  rw [if_neg h4, if_neg h4]; rfl
theorem readTx_go (s : List UInt8) : readTx s = if 4000 < (s.length : Int) then (zTx, 2) else
  if Go.Lib.hasSuffix s [10] = false then (zTx, 1) else
  if Go.Lib.hasPrefix ((cutAt 10 (Go.Lib.trimSuffix s [10])).headD []) tTx = false then (zTx, 1) else
  if (numI (Go.Lib.trimPrefix ((cutAt 10 (Go.Lib.trimSuffix s [10])).headD []) tTx)).2 = true then linesGo (numI (Go.Lib.trimPrefix ((cutAt 10 (Go.Lib.trimSuffix s [10])).headD []) tTx)).1 [] [] ((cutAt 10 (Go.Lib.trimSuffix s [10])).drop 1) else (zTx, 1) := by
  unfold readTx
  rw [numI_of]
  by_cases h : (numI (Go.Lib.trimPrefix ((cutAt 10 (Go.Lib.trimSuffix s [10])).headD []) tTx)).2 = true
  · rw [if_pos h, if_pos h]
  · rw [if_neg h, if_neg h]
theorem sp_txCheckB_at (t : Tx) : sp_txCheck [I t.height, .l 3 (t.ins.map eIn), .l 2 (t.outs.map eOut)] = some [I (txCheck t)] := spD_at (f := fun t : Tx => txCheck t) t trivial
noncomputable def sp_txNumber : Spec := spD (fun s : List UInt8 => s.length ≤ 1000000000) fun s => numI s
theorem sp_txNumber_at (s : List UInt8) (h : s.length ≤ 1000000000) : sp_txNumber [.s s] = some [I (numI s).1, .b (numI s).2] := spD_at (p := fun s : List UInt8 => s.length ≤ 1000000000) (f := fun s : List UInt8 => numI s) s h
noncomputable def sp_txParse : Spec := spD (fun _ : List UInt8 => True) fun s => readTx s
theorem sp_txParse_at (s : List UInt8) : sp_txParse [.s s] = some (eTx (readTx s).1 ++ [I (readTx s).2]) := spD_at (f := fun s : List UInt8 => readTx s) s trivial
attribute [local irreducible] specOf spD ordP itoa opsCheck openOf joinC readGo atoiOf cutAt txCheck readOf
section
variable {α : Type} {f : α → List Dt} {sp : Nat → Spec} {N : Nat} {E : Env}
theorem dx_tail {sz : Nat} {a : Atom} {x : α} {l : List α} (ha : a.val E = some (.l sz ((x :: l).map f))) : denX sp E (.sub sz a (some (.c (.i .i64 1))) none) = some (.l sz (l.map f)) := by
  have hl : (x :: l).length = l.length + 1 := rfl
  rw [dx_sub (m := 1) (n := ((x :: l).length : Int)) ha rfl rfl (by omega) (by omega) (by omega)]
  simp
end
attribute [local irreducible] den denX denXs holdXs
def t_txNumber : T :=
  .lets [.call 42 [.v 0] 0, .call 42 [.v 0] 1] [] (.lets [.ise false (.v 2)] [] (.ite (.v 3) (.lets [.call 31 [.v 1] 0] [] (.lets [.bin .eql (.v 4) (.v 0)] [] (.ret [.v 1, .v 5])))
  (.ret [.v 1, .c (.b false)])))
def t_txParse_0 : T :=
  .ite (.v 35) (.ret [.c (.i .i64 0), .c (.nil 3), .c (.nil 2), .c (.i .i64 1)]) (.lets [.mk 1 [[.v 33]]] [] (.lets [.app 1 (.v 29) (.v 36)] [] (.lets [.bin .add (.v 30) (.c (.i .i64
  1))] [] (.again 1 [.v 28, .v 37, .v 38]))))
def t_txParse_1 : T :=
  .lets [.mk 3 [[.v 43, .v 44, .v 32]]] [] (.lets [.app 3 (.v 17) (.v 45)] [] (.lets [.bin .add (.v 19) (.c (.i .i64 1))] [] (.again 0 [.v 16, .v 46, .v 18, .v 47])))
def t_txParse_2 : T :=
  .lets [] [.inr 1 (.v 29) (.c (.i .i64 0))] (.lets [.idx (.v 29) (.c (.i .i64 0)) 0] [] (.lets [] [.inr 1 (.v 29) (.c (.i .i64 1))] (.lets [.idx (.v 29) (.c (.i .i64 1)) 0] []
  t_txParse_1)))
def t_txParse_3 : T :=
  .lets [.idx (.v 29) (.c (.i .i64 0)) 0] [] (.lets [.mk 2 [[.v 47, .v 32]]] [] (.lets [.app 2 (.v 16) (.v 48)] [] (.lets [.bin .add (.v 19) (.c (.i .i64 1))] [] (.again 0 [.v 49, .v
  17, .v 18, .v 50]))))
def t_txParse_4 : T :=
  .lets [.bin .eql (.v 45) (.c (.i .i64 1))] [] (.ite (.v 46) (.lets [] [.inr 1 (.v 29) (.c (.i .i64 0))] t_txParse_3) (.ret [.c (.i .i64 0), .c (.nil 3), .c (.nil 2), .c (.i .i64
  1)]))
def t_txParse_5 : T :=
  .lets [.bin .eql (.v 43) (.c (.s [111, 117, 116]))] [] (.ite (.v 44) (.lets [.len (.v 29)] [] t_txParse_4) (.ret [.c (.i .i64 0), .c (.nil 3), .c (.nil 2), .c (.i .i64 1)]))
def t_txParse_6 : T :=
  .lets [.bin .eql (.v 41) (.c (.i .i64 0))] [] (.ite (.v 42) t_txParse_2 (.lets [] [.inr 1 (.v 25) (.c (.i .i64 0))] (.lets [.idx (.v 25) (.c (.i .i64 0)) 0] [] t_txParse_5)))
def t_txParse_7 : T :=
  .lets [.idx (.v 29) (.c (.i .i64 0)) 0] [] (.lets [.mk 2 [[.v 45, .v 32]]] [] (.lets [.app 2 (.v 16) (.v 46)] [] (.lets [.bin .add (.v 19) (.c (.i .i64 1))] [] (.again 0 [.v 47, .v
  17, .v 18, .v 48]))))
def t_txParse_8 : T :=
  .lets [.bin .eql (.v 43) (.c (.i .i64 1))] [] (.ite (.v 44) (.lets [] [.inr 1 (.v 29) (.c (.i .i64 0))] t_txParse_7) (.ret [.c (.i .i64 0), .c (.nil 3), .c (.nil 2), .c (.i .i64
  1)]))
def t_txParse_9 : T :=
  .lets [.bin .eql (.v 41) (.c (.s [111, 117, 116]))] [] (.ite (.v 42) (.lets [.len (.v 29)] [] t_txParse_8) (.ret [.c (.i .i64 0), .c (.nil 3), .c (.nil 2), .c (.i .i64 1)]))
def t_txParse_10 : T :=
  .lets [.bin .eql (.v 39) (.c (.i .i64 2))] [] (.ite (.v 40) (.lets [.len (.v 16)] [] t_txParse_6) (.lets [] [.inr 1 (.v 25) (.c (.i .i64 0))] (.lets [.idx (.v 25) (.c (.i .i64 0))
  0] [] t_txParse_9)))
def t_txParse_11 : T :=
  .lets [.idx (.v 29) (.c (.i .i64 0)) 0] [] (.lets [.mk 2 [[.v 43, .v 32]]] [] (.lets [.app 2 (.v 16) (.v 44)] [] (.lets [.bin .add (.v 19) (.c (.i .i64 1))] [] (.again 0 [.v 45, .v
  17, .v 18, .v 46]))))
def t_txParse_12 : T :=
  .lets [.bin .eql (.v 41) (.c (.i .i64 1))] [] (.ite (.v 42) (.lets [] [.inr 1 (.v 29) (.c (.i .i64 0))] t_txParse_11) (.ret [.c (.i .i64 0), .c (.nil 3), .c (.nil 2), .c (.i .i64
  1)]))
def t_txParse_13 : T :=
  .lets [.bin .eql (.v 39) (.c (.s [111, 117, 116]))] [] (.ite (.v 40) (.lets [.len (.v 29)] [] t_txParse_12) (.ret [.c (.i .i64 0), .c (.nil 3), .c (.nil 2), .c (.i .i64 1)]))
def t_txParse_14 : T :=
  .lets [.bin .eql (.v 37) (.c (.s [105, 110]))] [] (.ite (.v 38) (.lets [.len (.v 29)] [] t_txParse_10) (.lets [] [.inr 1 (.v 25) (.c (.i .i64 0))] (.lets [.idx (.v 25) (.c (.i .i64
  0)) 0] [] t_txParse_13)))
def t_txParse_15 : T :=
  .ite (.v 36) (.ret [.c (.i .i64 0), .c (.nil 3), .c (.nil 2), .c (.i .i64 1)]) (.lets [] [.inr 1 (.v 25) (.c (.i .i64 0))] (.lets [.idx (.v 25) (.c (.i .i64 0)) 0] [] t_txParse_14))
def t_txParse_16 : T :=
  .ite (.v 34) (.ret [.c (.i .i64 0), .c (.nil 3), .c (.nil 2), .c (.i .i64 1)]) (.lets [.call 47 [.v 21, .c (.s [58])] 0] [] (.lets [.not (.v 35)] [] t_txParse_15))
def t_txParse_17 : T :=
  .ite (.v 31) (.lets [] [.inr 1 (.v 26) (.v 30)] (.lets [.idx (.v 26) (.v 30) 0] [] (.lets [.call 61 [.v 32] 0, .call 61 [.v 32] 1] [] (.lets [.not (.v 34)] [] t_txParse_0)))) (.lets
  [.call 54 [.v 23] 0, .call 54 [.v 23] 1] [] (.lets [.bin .neq (.v 33) (.c (.i .i64 0))] [] t_txParse_16))
def t_txParse_18 : T :=
  .lets [.sub 1 (.v 25) (some (.c (.i .i64 1))) none] [] (.lets [.len (.v 26)] [] (.loop [.c (.b false), .c (.nil 1), .c (.i .i64 0)] (.lets [.bin .lss (.v 30) (.v 27)] []
  t_txParse_17)))
def t_txParse_19 : T :=
  .lets [.call 46 [.v 21, .c (.s [58])] 0, .call 46 [.v 21, .c (.s [58])] 1, .call 46 [.v 21, .c (.s [58])] 2] [] (.lets [.call 41 [.v 22, .c (.s [32])] 0] [] t_txParse_18)
def t_txParse_20 : T :=
  .lets [.bin .neq (.v 21) (.c (.i .i64 0))] [] (.ite (.v 22) (.ret [.c (.i .i64 0), .c (.nil 3), .c (.nil 2), .v 21]) (.ret [.v 9, .v 17, .v 16, .c (.i .i64 0)]))
def t_txParse_21 : T :=
  .lets [.bin .lss (.v 19) (.v 15)] [] (.ite (.v 20) (.lets [] [.inr 1 (.v 14) (.v 19)] (.lets [.idx (.v 14) (.v 19) 0] [] t_txParse_19)) (.lets [.call 16 [.v 9, .v 17, .v 16] 0] []
  t_txParse_20))
def t_txParse_22 : T :=
  .ite (.v 13) (.ret [.c (.i .i64 0), .c (.nil 3), .c (.nil 2), .c (.i .i64 1)]) (.lets [.sub 1 (.v 5) (some (.c (.i .i64 1))) none] [] (.lets [.len (.v 14)] [] (.loop [.c (.nil 2),
  .c (.nil 3), .c (.i .i64 0), .c (.i .i64 0)] t_txParse_21)))
def t_txParse_23 : T :=
  .ite (.v 11) (.ret [.c (.i .i64 0), .c (.nil 3), .c (.nil 2), .c (.i .i64 1)]) (.lets [.not (.v 8)] [] (.ite (.v 12) (.ret [.c (.i .i64 0), .c (.nil 3), .c (.nil 2), .c (.i .i64
  1)]) (.lets [.not (.v 10)] [] t_txParse_22)))
def t_txParse_24 : T :=
  .lets [.call 49 [.v 6, .c (.s [116, 120, 32])] 0, .call 49 [.v 6, .c (.s [116, 120, 32])] 1] [] (.lets [.call 61 [.v 7] 0, .call 61 [.v 7] 1] [] (.lets [.not (.v 4)] []
  t_txParse_23))
def t_txParse_25 : T :=
  .lets [.call 50 [.v 0, .c (.s [10])] 0, .call 50 [.v 0, .c (.s [10])] 1] [] (.lets [.call 41 [.v 3, .c (.s [10])] 0] [] (.lets [] [.inr 1 (.v 5) (.c (.i .i64 0))] (.lets [.idx (.v
  5) (.c (.i .i64 0)) 0] [] t_txParse_24)))
def t_txParse : T :=
  .lets [.slen (.v 0)] [] (.lets [.bin .gtr (.v 1) (.c (.i .i64 4000))] [] (.ite (.v 2) (.ret [.c (.i .i64 0), .c (.nil 3), .c (.nil 2), .c (.i .i64 2)]) t_txParse_25))
attribute [local irreducible] sp_atoi sp_itoa
theorem m_txNumber : Meets Tryd.prog sp_txNumber 54 ⟨[.one], [(false, [.scal]), (false, [.scal])], true⟩ := by
  refine meets_fast (sp := (spsOf [(31, sp_itoa), (42, sp_atoi)])) (sigs := sigsA) (cut := []) (hints := []) (fn := Tryd.f54) (t := t_txNumber) (by kernel_rfl) (by kernel_rfl) (by kernel_rfl) ?_ ?_
  · exact (sig_of (L := [(31, sp_itoa), (42, sp_atoi)]) ⟨sig_at rfl m_itoa, sig_at rfl m_atoi, trivial⟩)
  · rintro ds rs - h
    obtain ⟨w, hw, rfl, rfl⟩ := spD_some h
    clear h
    refine ⟨⟨1, ?_⟩, scalOk_2 rfl rfl⟩
    show den _ _ t_txNumber [.s w] [] = ret (numI w)
    have a1 := sp_atoi_at w hw
    unfold t_txNumber numI
    cases hi : (atoiOf w).2.is with
    | true =>
      rw [hi] at a1
      repeat' (first | refine dq1 ?_ | refine dqc ?_ | refine dqm ?_ | refine dqk rfl (a1) ?_ | refine dqK rfl (a1) ?_ | refine den_let1 (dx_ise rfl) ?_ | exact den_ret rfl rfl | refine tR (fun h => ?_) fun h => ?_ | refine tB (fun h => ?_) fun h => ?_ | refine tC (fun h => ?_) fun h => ?_ | refine tN (fun h => ?_) fun h => ?_ | refine tF (fun h => ?_) fun h => ?_ | refine tG (fun h => ?_) fun h => ?_ | refine tP (fun h => ?_) fun h => ?_ | refine tQ (fun h => ?_) fun h => ?_ | refine tA (fun h => ?_) fun h => ?_ | refine tO (fun h => ?_) fun h => ?_ | refine tU (fun h => ?_) fun h => ?_ | refine tV (fun h => ?_) fun h => ?_ | refine dqT ?_ | refine dqF ?_ | refine den_t rfl ?_ | refine den_f rfl ?_ | refine dqTn ?_ | refine dqFn ?_)
    | false =>
      rw [hi] at a1
      repeat' (first | refine dq1 ?_ | refine dqc ?_ | refine dqm ?_ | refine dqk rfl (a1) ?_ | refine dqK rfl (a1) ?_ | refine dqk rfl (sp_itoa_at _) ?_ | refine dqK rfl (sp_itoa_at _) ?_ | refine den_let1 (dx_ise rfl) ?_ | exact den_ret rfl rfl | refine tR (fun h => ?_) fun h => ?_ | refine tB (fun h => ?_) fun h => ?_ | refine tC (fun h => ?_) fun h => ?_ | refine tN (fun h => ?_) fun h => ?_ | refine tF (fun h => ?_) fun h => ?_ | refine tG (fun h => ?_) fun h => ?_ | refine tP (fun h => ?_) fun h => ?_ | refine tQ (fun h => ?_) fun h => ?_ | refine tA (fun h => ?_) fun h => ?_ | refine tO (fun h => ?_) fun h => ?_ | refine tU (fun h => ?_) fun h => ?_ | refine tV (fun h => ?_) fun h => ?_ | refine dqT ?_ | refine dqF ?_ | refine den_t rfl ?_ | refine den_f rfl ?_ | refine dqTn ?_ | refine dqFn ?_)
attribute [local irreducible] numI numsGo linesGo finish lineEnd
attribute [local irreducible] sp_cutPrefix sp_cutSuffix sp_lockParse sp_strContains sp_strCut sp_strSplit sp_txCheck
theorem m_txParse : Meets Tryd.prog sp_txParse 28 ⟨[.one], [(true, [.scal, .pure, .pure]), (false, [.scal])], false⟩ := by
  refine meets_fin (sp := (spsOf [(16, sp_txCheck), (41, sp_strSplit), (46, sp_strCut), (47, sp_strContains), (49, sp_cutPrefix), (50, sp_cutSuffix), (54, sp_lockParse), (61, sp_txNumber)])) (sigs := sigsA) (cut := []) (hints := [⟨11, [.n 11 2 661 105 2, .c 11 2 661, .n 11 1 660 103 3, .c 11 1 660, .t 3, .t 54]⟩]) (fns := [fnOf 55 Tryd.f55 [⟨5, [.t 4, .r 9 3 1, .t 27]⟩] []]) (dep := 3) (pool := 600) (fn := Tryd.f28) (t := t_txParse) (by kernel_rfl) (by kernel_rfl) (by kernel_rfl) ?_ ?_ ?_
  · exact (fnOk_cons (fn := Tryd.f55) (by kernel_rfl) (by kernel_rfl) (by kernel_rfl) (by kernel_rfl) (by kernel_rfl) fnOk_nil)
  · exact (sig_of (L := [(16, sp_txCheck), (41, sp_strSplit), (46, sp_strCut), (47, sp_strContains), (49, sp_cutPrefix), (50, sp_cutSuffix), (54, sp_lockParse), (61, sp_txNumber)]) ⟨sig_at rfl m_txCheck, sig_at rfl m_strSplit, sig_at rfl m_strCut, sig_at rfl m_strContains, sig_at rfl m_cutPrefix, sig_at rfl m_cutSuffix, sig_at rfl m_lockParse, sig_at rfl m_txNumber, trivial⟩)
  · rintro ds rs hok h
    obtain ⟨s, -, rfl, rfl⟩ := spD_some h
    clear h
    refine ⟨⟨s.length + 5000, ?_⟩, ?_⟩
    · show den _ _ t_txParse [.s s] [] = ret (readTx s)
      rw [readTx_go]
      unfold t_txParse
      repeat' (first | refine dq1 ?_ | refine dqc ?_ | refine dqm ?_ | exact den_ret rfl rfl | refine tR (fun h => ?_) fun h => ?_ | refine tB (fun h => ?_) fun h => ?_ | refine tC (fun h => ?_) fun h => ?_ | refine tN (fun h => ?_) fun h => ?_ | refine tF (fun h => ?_) fun h => ?_ | refine tG (fun h => ?_) fun h => ?_ | refine tP (fun h => ?_) fun h => ?_ | refine tQ (fun h => ?_) fun h => ?_ | refine tA (fun h => ?_) fun h => ?_ | refine tO (fun h => ?_) fun h => ?_ | refine tU (fun h => ?_) fun h => ?_ | refine tV (fun h => ?_) fun h => ?_ | refine dqT ?_ | refine dqF ?_ | refine den_t rfl ?_ | refine den_f rfl ?_ | refine dqTn ?_ | refine dqFn ?_)
      have hs4 : s.length ≤ 4000 := by omega
      have hrs : (Go.Lib.trimSuffix s [10]).length ≤ s.length := by
        unfold Go.Lib.trimSuffix
        split
        · simp
        · exact Nat.le_refl _
      have hr4 : (Go.Lib.trimSuffix s [10]).length ≤ 4000 := by omega
      have hcl := cutAt_len 10 (Go.Lib.trimSuffix s [10])
      have a1 := sp_cutSuffix_at s [10]
      have a2 := sp_strSplit_at (Go.Lib.trimSuffix s [10]) 10 (by omega)
      have hne := cutAt_ne 10 (Go.Lib.trimSuffix s [10])
      generalize cutAt 10 (Go.Lib.trimSuffix s [10]) = l at *
      cases l with
      | nil => exact absurd rfl hne
      | cons w0 ws =>
      simp only [List.headD_cons, List.drop_succ_cons, List.drop_zero]
      have hw0 : w0.length ≤ 4000 := by have := hcl.2 w0 (by simp); omega
      have hx : (w0 :: ws)[0]? = some w0 := rfl
      have hln : (w0 :: ws).length = ws.length + 1 := rfl
      have a3 := sp_cutPrefix_at w0 tTx
      have ht0 : (Go.Lib.trimPrefix w0 tTx).length ≤ 4000 := by
        unfold Go.Lib.trimPrefix
        split
        · simp; omega
        · omega
      have a4 := sp_txNumber_at (Go.Lib.trimPrefix w0 tTx) (by omega)
      generalize numI (Go.Lib.trimPrefix w0 tTx) = nb at *
      obtain ⟨n, ok⟩ := nb
      generalize Go.Lib.trimPrefix w0 tTx = h0 at *
      generalize Go.Lib.hasPrefix w0 tTx = is at *
      generalize Go.Lib.hasSuffix s [10] = sfx at *
      generalize Go.Lib.trimSuffix s [10] = rest at *
      simp only at *
      repeat' (first | refine dq1 ?_ | refine dqc ?_ | refine dqm ?_ | refine dqk rfl (a1) ?_ | refine dqK rfl (a1) ?_ | refine dqk rfl (a2) ?_ | refine dqK rfl (a2) ?_ | refine dqk rfl (a3) ?_ | refine dqK rfl (a3) ?_ | refine dqk rfl (a4) ?_ | refine dqK rfl (a4) ?_ | refine den_let1 (dx_tail rfl) ?_ | exact den_ret rfl rfl | refine tR (fun h => ?_) fun h => ?_ | refine tB (fun h => ?_) fun h => ?_ | refine tC (fun h => ?_) fun h => ?_ | refine tN (fun h => ?_) fun h => ?_ | refine tF (fun h => ?_) fun h => ?_ | refine tG (fun h => ?_) fun h => ?_ | refine tP (fun h => ?_) fun h => ?_ | refine tQ (fun h => ?_) fun h => ?_ | refine tA (fun h => ?_) fun h => ?_ | refine tO (fun h => ?_) fun h => ?_ | refine tU (fun h => ?_) fun h => ?_ | refine tV (fun h => ?_) fun h => ?_ | refine dqT ?_ | refine dqF ?_ | refine den_t rfl ?_ | refine den_f rfl ?_ | refine dqTn ?_ | refine dqFn ?_)
      (refine den_range (fun (a : List Out × List In) k => [.l 2 (a.1.map eOut), .l 3 (a.2.map eIn), I 0, I k]) (fun (a : List Out × List In) _ (r : List (List UInt8)) => linesGo n a.1 a.2 r) (fun a k => a.1.length + a.2.length = k) ([], []) ws ?_ ?_ ?_ ?_ ?_; rfl; exact rfl; omega)
      · rintro ⟨o, i⟩ k x r hx hd hk ha again hag
        simp only at ha hag ⊢
        have hxl : x.length ≤ 4000 := by have := hcl.2 x (List.mem_cons_of_mem _ (List.mem_of_getElem? hx)); omega
        rw [linesGo_cons]
        have b1 := sp_strCut_at x [58] (by omega)
        have b2 := sp_lockParse_at (Go.Lib.cut x [58]).2.1
        have b3 := sp_strContains_at x [58] (by omega)
        have hc1 : (Go.Lib.cut x [58]).1.length ≤ 4000 := by
          unfold Go.Lib.cut
          split
          · simp; omega
          · simp only; omega
        have b4 := sp_strSplit_at (Go.Lib.cut x [58]).1 32 (by omega)
        have hcw := cutAt_len 32 (Go.Lib.cut x [58]).1
        have hne2 := cutAt_ne 32 (Go.Lib.cut x [58]).1
        generalize hc : Go.Lib.cut x [58] = c at *
        obtain ⟨hd0, q, fd⟩ := c
        simp only at *
        generalize hv : cutAt 32 hd0 = v at *
        cases v with
        | nil => exact absurd rfl hne2
        | cons v0 vs =>
        generalize hr : readOf q = rd at *
        obtain ⟨l, e⟩ := rd
        have fe := fun a => finish_end n r o i x a hc hv hr
        simp only [List.drop_succ_cons, List.drop_zero] at b2 ⊢
        have hv0 : (v0 :: vs)[0]? = some v0 := rfl
        have hvn : (v0 :: vs).length = vs.length + 1 := rfl
        repeat' (first | refine dq1 ?_ | refine dqc ?_ | refine dqm ?_ | refine dqk rfl (b1) ?_ | refine dqK rfl (b1) ?_ | refine dqk rfl (b4) ?_ | refine dqK rfl (b4) ?_ | refine den_let1 (dx_tail rfl) ?_ | exact den_ret rfl rfl | refine tR (fun h => ?_) fun h => ?_ | refine tB (fun h => ?_) fun h => ?_ | refine tC (fun h => ?_) fun h => ?_ | refine tN (fun h => ?_) fun h => ?_ | refine tF (fun h => ?_) fun h => ?_ | refine tG (fun h => ?_) fun h => ?_ | refine tP (fun h => ?_) fun h => ?_ | refine tQ (fun h => ?_) fun h => ?_ | refine tA (fun h => ?_) fun h => ?_ | refine tO (fun h => ?_) fun h => ?_ | refine tU (fun h => ?_) fun h => ?_ | refine tV (fun h => ?_) fun h => ?_ | refine dqT ?_ | refine dqF ?_ | refine den_t rfl ?_ | refine den_f rfl ?_ | refine dqTn ?_ | refine dqFn ?_)
        (refine den_range (fun (a : List Int) k => [.b false, .l 1 (a.map eInt), I k]) (fun (a : List Int) _ (r' : List (List UInt8)) => finish n r (numsGo o i x a r')) (fun a k => a.length = k) [] vs ?_ ?_ ?_ ?_ ?_; rfl; exact rfl; omega)
        · rintro a k' w r' hw hd' hk' ha' again' hag'
          try simp only at ha' hag' ⊢
          have hwl : w.length ≤ 4000 := by have := hcw.2 w (List.mem_cons_of_mem _ (List.mem_of_getElem? hw)); omega
          rw [numsGo_cons]
          have b6 := sp_txNumber_at w (by omega)
          generalize numI w = nb at *
          obtain ⟨m, g⟩ := nb
          simp only at b6 ⊢
          cases g with
          | true =>
            rw [if_pos rfl]
            repeat' (first | refine dq1 ?_ | refine dqc ?_ | refine dqm ?_ | refine dqk rfl (b6) ?_ | refine dqK rfl (b6) ?_ | refine den_let1 (den_mk rfl rfl (by simp)) ?_ | refine den_let1 (dx_app1 (x := m) (fun _ => rfl) rfl rfl (by omega)) ?_ | exact den_ret rfl rfl | refine tR (fun h => ?_) fun h => ?_ | refine tB (fun h => ?_) fun h => ?_ | refine tC (fun h => ?_) fun h => ?_ | refine tN (fun h => ?_) fun h => ?_ | refine tF (fun h => ?_) fun h => ?_ | refine tG (fun h => ?_) fun h => ?_ | refine tP (fun h => ?_) fun h => ?_ | refine tQ (fun h => ?_) fun h => ?_ | refine tA (fun h => ?_) fun h => ?_ | refine tO (fun h => ?_) fun h => ?_ | refine tU (fun h => ?_) fun h => ?_ | refine tV (fun h => ?_) fun h => ?_ | refine dqT ?_ | refine dqF ?_ | refine den_t rfl ?_ | refine den_f rfl ?_ | refine dqTn ?_ | refine dqFn ?_)
            exact den_again rfl rfl (hag' (a ++ [m]) (by rw [List.length_append, ha']; rfl))
          | false =>
            rw [if_neg (by simp)]
            have e1 : finish n r none = (zTx, 1) := by with_unfolding_all rfl
            rw [e1]
            repeat' (first | refine dq1 ?_ | refine dqc ?_ | refine dqm ?_ | refine dqk rfl (b6) ?_ | refine dqK rfl (b6) ?_ | exact den_ret rfl rfl | refine tR (fun h => ?_) fun h => ?_ | refine tB (fun h => ?_) fun h => ?_ | refine tC (fun h => ?_) fun h => ?_ | refine tN (fun h => ?_) fun h => ?_ | refine tF (fun h => ?_) fun h => ?_ | refine tG (fun h => ?_) fun h => ?_ | refine tP (fun h => ?_) fun h => ?_ | refine tQ (fun h => ?_) fun h => ?_ | refine tA (fun h => ?_) fun h => ?_ | refine tO (fun h => ?_) fun h => ?_ | refine tU (fun h => ?_) fun h => ?_ | refine tV (fun h => ?_) fun h => ?_ | refine dqT ?_ | refine dqF ?_ | refine den_t rfl ?_ | refine den_f rfl ?_ | refine dqTn ?_ | refine dqFn ?_)
        · rintro a ha' again'
          try simp only at ha' ⊢
          rw [numsGo_nil, fe a]
          repeat' (first | refine dq1 ?_ | refine dqc ?_ | refine dqm ?_ | refine dqk rfl (b2) ?_ | refine dqK rfl (b2) ?_ | refine dqk rfl (b3) ?_ | refine dqK rfl (b3) ?_ | exact den_ret rfl rfl | refine tR (fun h => ?_) fun h => ?_ | refine tB (fun h => ?_) fun h => ?_ | refine tC (fun h => ?_) fun h => ?_ | refine tN (fun h => ?_) fun h => ?_ | refine tF (fun h => ?_) fun h => ?_ | refine tG (fun h => ?_) fun h => ?_ | refine tP (fun h => ?_) fun h => ?_ | refine tQ (fun h => ?_) fun h => ?_ | refine tA (fun h => ?_) fun h => ?_ | refine tO (fun h => ?_) fun h => ?_ | refine tU (fun h => ?_) fun h => ?_ | refine tV (fun h => ?_) fun h => ?_ | refine dqT ?_ | refine dqF ?_ | refine den_t rfl ?_ | refine den_f rfl ?_ | refine dqTn ?_ | refine dqFn ?_)
          by_cases hI : v0 = tIn ∧ a.length = 2 ∧ o.length = 0
          · obtain ⟨rfl, h2, h3⟩ := hI
            rw [if_pos ⟨rfl, h2, h3⟩]
            match a, h2, o, h3 with
            | [a0, a1], _, [], _ =>
            have x0 : [a0, a1][0]? = some a0 := rfl
            have x1 : [a0, a1][1]? = some a1 := rfl
            have xl : [a0, a1].length = 2 := rfl
            have xo : ([] : List Out).length = 0 := rfl
            repeat' (first | refine dq1 ?_ | refine dqc ?_ | refine dqm ?_ | refine den_let1 (den_mk rfl rfl (by simp)) ?_ | refine den_let1 (dx_app1 (x := ⟨⟨a0, a1⟩, l⟩) (fun _ => rfl) rfl rfl (by omega)) ?_ | exact den_ret rfl rfl | refine tR (fun h => ?_) fun h => ?_ | refine tB (fun h => ?_) fun h => ?_ | refine tC (fun h => ?_) fun h => ?_ | refine tN (fun h => ?_) fun h => ?_ | refine tF (fun h => ?_) fun h => ?_ | refine tG (fun h => ?_) fun h => ?_ | refine tP (fun h => ?_) fun h => ?_ | refine tQ (fun h => ?_) fun h => ?_ | refine tA (fun h => ?_) fun h => ?_ | refine tO (fun h => ?_) fun h => ?_ | refine tU (fun h => ?_) fun h => ?_ | refine tV (fun h => ?_) fun h => ?_ | refine dqT ?_ | refine dqF ?_ | refine den_t rfl ?_ | refine den_f rfl ?_ | refine dqTn ?_ | refine dqFn ?_)
            exact den_again rfl rfl (hag ([], i ++ [⟨⟨a0, a1⟩, l⟩]) (by simp; simp at ha; omega))
          · rw [if_neg hI]
            by_cases hO : v0 = tOut ∧ a.length = 1
            · obtain ⟨rfl, h2⟩ := hO
              rw [if_pos ⟨rfl, h2⟩]
              match a, h2 with
              | [a0], _ =>
              have x0 : [a0][0]? = some a0 := rfl
              have xl : [a0].length = 1 := rfl
              repeat' (first | refine dq1 ?_ | refine dqc ?_ | refine dqm ?_ | refine den_let1 (den_mk rfl rfl (by simp)) ?_ | refine den_let1 (dx_app1 (x := ⟨a0, l⟩) (fun _ => rfl) rfl rfl (by omega)) ?_ | exact den_ret rfl rfl | refine tR (fun h => ?_) fun h => ?_ | refine tB (fun h => ?_) fun h => ?_ | refine tC (fun h => ?_) fun h => ?_ | refine tN (fun h => ?_) fun h => ?_ | refine tF (fun h => ?_) fun h => ?_ | refine tG (fun h => ?_) fun h => ?_ | refine tP (fun h => ?_) fun h => ?_ | refine tQ (fun h => ?_) fun h => ?_ | refine tA (fun h => ?_) fun h => ?_ | refine tO (fun h => ?_) fun h => ?_ | refine tU (fun h => ?_) fun h => ?_ | refine tV (fun h => ?_) fun h => ?_ | refine dqT ?_ | refine dqF ?_ | refine den_t rfl ?_ | refine den_f rfl ?_ | refine dqTn ?_ | refine dqFn ?_)
              exact den_again rfl rfl (hag (o ++ [⟨a0, l⟩], i) (by simp; omega))
            · rw [if_neg hO]
              by_cases c1 : v0 = tIn
              · subst c1
                by_cases c2 : a.length = 2
                · have c3 : ¬ o.length = 0 := fun h => hI ⟨rfl, c2, h⟩
                  repeat' (first | refine dq1 ?_ | refine dqc ?_ | refine dqm ?_ | exact den_ret rfl rfl | refine tR (fun h => ?_) fun h => ?_ | refine tB (fun h => ?_) fun h => ?_ | refine tC (fun h => ?_) fun h => ?_ | refine tN (fun h => ?_) fun h => ?_ | refine tF (fun h => ?_) fun h => ?_ | refine tG (fun h => ?_) fun h => ?_ | refine tP (fun h => ?_) fun h => ?_ | refine tQ (fun h => ?_) fun h => ?_ | refine tA (fun h => ?_) fun h => ?_ | refine tO (fun h => ?_) fun h => ?_ | refine tU (fun h => ?_) fun h => ?_ | refine tV (fun h => ?_) fun h => ?_ | refine dqT ?_ | refine dqF ?_ | refine den_t rfl ?_ | refine den_f rfl ?_ | refine dqTn ?_ | refine dqFn ?_)
                · repeat' (first | refine dq1 ?_ | refine dqc ?_ | refine dqm ?_ | exact den_ret rfl rfl | refine tR (fun h => ?_) fun h => ?_ | refine tB (fun h => ?_) fun h => ?_ | refine tC (fun h => ?_) fun h => ?_ | refine tN (fun h => ?_) fun h => ?_ | refine tF (fun h => ?_) fun h => ?_ | refine tG (fun h => ?_) fun h => ?_ | refine tP (fun h => ?_) fun h => ?_ | refine tQ (fun h => ?_) fun h => ?_ | refine tA (fun h => ?_) fun h => ?_ | refine tO (fun h => ?_) fun h => ?_ | refine tU (fun h => ?_) fun h => ?_ | refine tV (fun h => ?_) fun h => ?_ | refine dqT ?_ | refine dqF ?_ | refine den_t rfl ?_ | refine den_f rfl ?_ | refine dqTn ?_ | refine dqFn ?_)
              · by_cases c4 : v0 = tOut
                · subst c4
                  have c5 : ¬ a.length = 1 := fun h => hO ⟨rfl, h⟩
                  repeat' (first | refine dq1 ?_ | refine dqc ?_ | refine dqm ?_ | exact den_ret rfl rfl | refine tR (fun h => ?_) fun h => ?_ | refine tB (fun h => ?_) fun h => ?_ | refine tC (fun h => ?_) fun h => ?_ | refine tN (fun h => ?_) fun h => ?_ | refine tF (fun h => ?_) fun h => ?_ | refine tG (fun h => ?_) fun h => ?_ | refine tP (fun h => ?_) fun h => ?_ | refine tQ (fun h => ?_) fun h => ?_ | refine tA (fun h => ?_) fun h => ?_ | refine tO (fun h => ?_) fun h => ?_ | refine tU (fun h => ?_) fun h => ?_ | refine tV (fun h => ?_) fun h => ?_ | refine dqT ?_ | refine dqF ?_ | refine den_t rfl ?_ | refine den_f rfl ?_ | refine dqTn ?_ | refine dqFn ?_)
                · repeat' (first | refine dq1 ?_ | refine dqc ?_ | refine dqm ?_ | exact den_ret rfl rfl | refine tR (fun h => ?_) fun h => ?_ | refine tB (fun h => ?_) fun h => ?_ | refine tC (fun h => ?_) fun h => ?_ | refine tN (fun h => ?_) fun h => ?_ | refine tF (fun h => ?_) fun h => ?_ | refine tG (fun h => ?_) fun h => ?_ | refine tP (fun h => ?_) fun h => ?_ | refine tQ (fun h => ?_) fun h => ?_ | refine tA (fun h => ?_) fun h => ?_ | refine tO (fun h => ?_) fun h => ?_ | refine tU (fun h => ?_) fun h => ?_ | refine tV (fun h => ?_) fun h => ?_ | refine dqT ?_ | refine dqF ?_ | refine den_t rfl ?_ | refine den_f rfl ?_ | refine dqTn ?_ | refine dqFn ?_)
      · rintro ⟨o, i⟩ ha again
        simp only at ha ⊢
        have e0 : linesGo n o i [] = if txCheck ⟨n, i, o⟩ ≠ 0 then (zTx, txCheck ⟨n, i, o⟩) else (⟨n, i, o⟩, 0) := by with_unfolding_all rfl
        rw [e0]
        have b5 := sp_txCheckB_at ⟨n, i, o⟩
        simp only at b5
        repeat' (first | refine dq1 ?_ | refine dqc ?_ | refine dqm ?_ | refine dqk rfl (b5) ?_ | refine dqK rfl (b5) ?_ | exact den_ret rfl rfl | refine tR (fun h => ?_) fun h => ?_ | refine tB (fun h => ?_) fun h => ?_ | refine tC (fun h => ?_) fun h => ?_ | refine tN (fun h => ?_) fun h => ?_ | refine tF (fun h => ?_) fun h => ?_ | refine tG (fun h => ?_) fun h => ?_ | refine tP (fun h => ?_) fun h => ?_ | refine tQ (fun h => ?_) fun h => ?_ | refine tA (fun h => ?_) fun h => ?_ | refine tO (fun h => ?_) fun h => ?_ | refine tU (fun h => ?_) fun h => ?_ | refine tV (fun h => ?_) fun h => ?_ | refine dqT ?_ | refine dqF ?_ | refine den_t rfl ?_ | refine den_f rfl ?_ | refine dqTn ?_ | refine dqFn ?_)
    · intro i d hi hd
      match i, hi, hd with
      | 0, _, hd =>
        obtain rfl : I (readTx s).1.height = d := Option.some.inj hd
        rfl
      | 1, hi, _ => simp [cfsOf] at hi
      | 2, hi, _ => simp [cfsOf] at hi
      | 3, _, hd =>
        obtain rfl : I (readTx s).2 = d := Option.some.inj hd
        rfl
      | i + 4, hi, hd => simp [cfsOf] at hi
end Go.Proofs.YtajaacgchhmbjaaDoor
namespace Go.Proofs.YtajaacgchhmbjaaDoor
open Go.RowKit
set_option linter.unusedVariables false
set_option linter.unusedSimpArgs false
set_option maxRecDepth 100000
set_option maxHeartbeats 4000000
attribute [local irreducible] specOf spD ordP
end Go.Proofs.YtajaacgchhmbjaaDoor
namespace Go.Proofs.YtajaacgchhmbjaaDoor
open Go.RowKit
set_option linter.unusedVariables false
set_option linter.unusedSimpArgs false
set_option maxRecDepth 100000
set_option maxHeartbeats 4000000
theorem sp_eqOps_at (l m : List Op) : sp_eqOps [.l 2 (l.map eOp), .l 2 (m.map eOp)] = some [.b (decide (l = m))] := spD_at (f := fun x : List Op × List Op => decide (x.1 = x.2)) (l, m) trivial
theorem m_eqOps : Meets Tryd.prog sp_eqOps 24 ⟨[.one, .one], [(false, [.scal])], true⟩ :=
  meets_scal2 (e := fun x : { x : List Op × List Op // True } => Enc.e x.1) (d := fun x => .b (decide (x.1.1 = x.1.2))) rfl (en_of (fn := Tryd.f24) (by kernel_rfl) (by kernel_rfl) (by kernel_rfl)) (fun _ => rfl) fun x W F us hF h => by
    obtain ⟨v, us, rfl, h1, h⟩ := pks_one h
    obtain ⟨v2, us, rfl, h2, h⟩ := pks_one h
    obtain rfl := pks_nil h
    obtain ⟨A, n, c, rfl, k1⟩ := rep_rds she_op h1
    obtain ⟨A2, n2, c2, rfl, k2⟩ := rep_rds she_op h2
    refine (equal_op x.1.1 x.1.2 A A2 n c n2 c2 W F F k1 k2).mono ?_
    rintro r W' ⟨rfl, m, rfl⟩
    exact ⟨_, rfl, below_drewN (Below.refl _ _) m, .b _⟩
attribute [local irreducible] specOf spD ordP
theorem ok_l {α : Type} {sz : Nat} {l : List α} {f : α → List Dt} (h : Dt.ok (.l sz (l.map f))) : l.length ≤ 9223372036854775807 := by
  cases h with
  | l _ _ h1 _ _ => simpa using h1
theorem out_eq (x y : Out) : (decide (x.coin = y.coin) && decide (x.lock = y.lock)) = decide (x = y) := by
  cases x; cases y
  simp only [Out.mk.injEq, Bool.decide_and]
noncomputable def sp_txSameOut : Spec := spD (fun _ : Out × Out => True) fun x => decide (x.1 = x.2)
theorem sp_txSameOut_at (x y : Out) : sp_txSameOut [I x.coin, .l 2 (x.lock.map eOp), I y.coin, .l 2 (y.lock.map eOp)] = some [.b (decide (x = y))] := spD_at (f := fun x : Out × Out => decide (x.1 = x.2)) (x, y) trivial
def t_txSameOut : T :=
  .lets [.bin .eql (.v 0) (.v 2)] [] (.ite (.v 4) (.lets [.call 19 [.v 1, .v 3] 0] [] (.ret [.v 5])) (.ret [.c (.b false)]))
theorem m_txSameOut : Meets Tryd.prog sp_txSameOut 59 ⟨[.agg 2, .agg 2], [(false, [.scal])], true⟩ := by
  refine meets_fast (sp := (spsOf [(19, sp_eqOps)])) (sigs := sigsA) (cut := []) (hints := []) (fn := Tryd.f59) (t := t_txSameOut) (by kernel_rfl) (by kernel_rfl) (by kernel_rfl) ?_ ?_
  · exact (sig_of (L := [(19, sp_eqOps)]) ⟨sig_at rfl m_eqOps, trivial⟩)
  · rintro ds rs - h
    obtain ⟨⟨x, y⟩, -, rfl, rfl⟩ := spD_some h
    clear h
    refine ⟨⟨1, ?_⟩, scalOk_1 rfl⟩
    show den _ _ t_txSameOut [I x.coin, .l 2 (x.lock.map eOp), I y.coin, .l 2 (y.lock.map eOp)] [] = ret (decide (x = y))
    rw [← out_eq]
    unfold t_txSameOut
    repeat' (first | refine dq1 ?_ | refine dqc ?_ | refine dqm ?_ | refine dqk rfl (sp_eqOps_at _ _) ?_ | refine dqK rfl (sp_eqOps_at _ _) ?_ | exact den_ret rfl rfl | refine tR (fun h => ?_) fun h => ?_ | refine tB (fun h => ?_) fun h => ?_ | refine tC (fun h => ?_) fun h => ?_ | refine tN (fun h => ?_) fun h => ?_ | refine tF (fun h => ?_) fun h => ?_ | refine tG (fun h => ?_) fun h => ?_ | refine tP (fun h => ?_) fun h => ?_ | refine tQ (fun h => ?_) fun h => ?_ | refine tA (fun h => ?_) fun h => ?_ | refine tO (fun h => ?_) fun h => ?_ | refine tU (fun h => ?_) fun h => ?_ | refine tV (fun h => ?_) fun h => ?_ | refine dqT ?_ | refine dqF ?_ | refine den_t rfl ?_ | refine den_f rfl ?_ | refine dqTn ?_ | refine dqFn ?_)
theorem eq_by_len {α : Type} [DecidableEq α] (l m : List α) : decide (l = m) = if (l.length : Int) ≠ m.length then false else decide (l = m) := by
  by_cases h : (l.length : Int) ≠ m.length
  · rw [if_pos h, decide_eq_false]
    rintro rfl
    exact h rfl
  · rw [if_neg h]
end Go.Proofs.YtajaacgchhmbjaaDoor
namespace Go.Proofs.YtajaacgchhmbjaaDoor
open Go.RowKit
open Go.Lib (itoa)
set_option linter.unusedVariables false
set_option linter.unusedSimpArgs false
set_option maxRecDepth 100000
set_option maxHeartbeats 4000000
theorem in_eq (x y : In) : (if x.p = y.p then decide (x.key = y.key) else false) = decide (x = y) := by
  cases x; cases y
  by_cases h : (‹Point› : Point) = ‹Point› <;> simp only [In.mk.injEq, Bool.decide_and] <;> split <;> simp [*]
theorem tx_eq (t u : Tx) : (if t.height = u.height then if decide (t.ins = u.ins) = true then decide (t.outs = u.outs) else false else false) = decide (t = u) := by
  cases t; cases u
  simp only [Tx.mk.injEq, Bool.decide_and]
  split <;> rename_i h
  · split <;> rename_i h2
    · simp [h, h2]
    · simp [h, h2]
  · simp [h]
noncomputable def sp_txSame1 : Spec := spD (fun _ : In × In => True) fun x => decide (x.1 = x.2)
theorem sp_txSame1_at (x y : In) : sp_txSame1 (eIn x ++ eIn y) = some [.b (decide (x = y))] := spD_at (f := fun x : In × In => decide (x.1 = x.2)) (x, y) trivial
noncomputable def sp_efIn : Spec := spD (fun _ : List In × List In => True) fun x => decide (x.1 = x.2)
theorem sp_efIn_at (l m : List In) : sp_efIn [.l 3 (l.map eIn), .l 3 (m.map eIn)] = some [.b (decide (l = m))] := spD_at (f := fun x : List In × List In => decide (x.1 = x.2)) (l, m) trivial
noncomputable def sp_efOut : Spec := spD (fun _ : List Out × List Out => True) fun x => decide (x.1 = x.2)
theorem sp_efOut_at (l m : List Out) : sp_efOut [.l 2 (l.map eOut), .l 2 (m.map eOut)] = some [.b (decide (l = m))] := spD_at (f := fun x : List Out × List Out => decide (x.1 = x.2)) (l, m) trivial
noncomputable def sp_txSame : Spec := spD (fun _ : Tx × Tx => True) fun x => decide (x.1 = x.2)
theorem sp_txSame_at (x y : Tx) : sp_txSame (eTx x ++ eTx y) = some [.b (decide (x = y))] := spD_at (f := fun x : Tx × Tx => decide (x.1 = x.2)) (x, y) trivial
attribute [local irreducible] specOf spD ordP opsCheck txCheck
attribute [local irreducible] den denX denXs holdXs
def t_txSame1 : T :=
  .lets [.eqs false [(.v 0, .v 3), (.v 1, .v 4)]] [] (.ite (.v 6) (.lets [.call 19 [.v 2, .v 5] 0] [] (.ret [.v 7])) (.ret [.c (.b false)]))
def t_efIn_0 : T :=
  .lets [.call 68 [.v 9, .v 10, .v 11, .v 12, .v 13, .v 14] 0] [] (.lets [.not (.v 15)] [] (.ite (.v 16) (.ret [.c (.b false)]) (.lets [.bin .add (.v 7) (.c (.i .i64 1))] [] (.again 0
  [.v 6, .v 17]))))
def t_efIn_1 : T :=
  .lets [.idx (.v 0) (.v 7) 0, .idx (.v 0) (.v 7) 1, .idx (.v 0) (.v 7) 2] [] (.lets [] [.inr 3 (.v 1) (.v 7)] (.lets [.idx (.v 1) (.v 7) 0, .idx (.v 1) (.v 7) 1, .idx (.v 1) (.v 7)
  2] [] t_efIn_0))
def t_efIn_2 : T :=
  .lets [.len (.v 0)] [] (.loop [.c (.b false), .c (.i .i64 0)] (.lets [.bin .lss (.v 7) (.v 5)] [] (.ite (.v 8) (.lets [] [.inr 3 (.v 0) (.v 7)] t_efIn_1) (.ret [.c (.b true)]))))
def t_efIn : T :=
  .lets [.len (.v 0)] [] (.lets [.len (.v 1)] [] (.lets [.bin .neq (.v 2) (.v 3)] [] (.ite (.v 4) (.ret [.c (.b false)]) t_efIn_2)))
def t_efOut_0 : T :=
  .lets [.call 20 [.v 9, .v 10, .v 11, .v 12] 0] [] (.lets [.not (.v 13)] [] (.ite (.v 14) (.ret [.c (.b false)]) (.lets [.bin .add (.v 7) (.c (.i .i64 1))] [] (.again 0 [.v 6, .v
  15]))))
def t_efOut_1 : T :=
  .lets [] [.inr 2 (.v 0) (.v 7)] (.lets [.idx (.v 0) (.v 7) 0, .idx (.v 0) (.v 7) 1] [] (.lets [] [.inr 2 (.v 1) (.v 7)] (.lets [.idx (.v 1) (.v 7) 0, .idx (.v 1) (.v 7) 1] []
  t_efOut_0)))
def t_efOut_2 : T :=
  .ite (.v 4) (.ret [.c (.b false)]) (.lets [.len (.v 0)] [] (.loop [.c (.b false), .c (.i .i64 0)] (.lets [.bin .lss (.v 7) (.v 5)] [] (.ite (.v 8) t_efOut_1 (.ret [.c (.b
  true)])))))
def t_efOut : T :=
  .lets [.len (.v 0)] [] (.lets [.len (.v 1)] [] (.lets [.bin .neq (.v 2) (.v 3)] [] t_efOut_2))
def t_txSame : T :=
  .lets [.bin .eql (.v 0) (.v 3)] [] (.ite (.v 6) (.lets [.call 69 [.v 1, .v 4] 0] [] (.ite (.v 7) (.lets [.call 70 [.v 2, .v 5] 0] [] (.ret [.v 8])) (.ret [.c (.b false)]))) (.ret
  [.c (.b false)]))
attribute [local irreducible] sp_eqOps
theorem m_txSame1 : Meets Tryd.prog sp_txSame1 57 ⟨[.agg 3, .agg 3], [(false, [.scal])], true⟩ := by
  refine meets_fast (sp := (spsOf [(19, sp_eqOps)])) (sigs := sigsA) (cut := []) (hints := []) (fn := Tryd.f57) (t := t_txSame1) (by kernel_rfl) (by kernel_rfl) (by kernel_rfl) ?_ ?_
  · exact (sig_of (L := [(19, sp_eqOps)]) ⟨sig_at rfl m_eqOps, trivial⟩)
  · rintro ds rs - h
    obtain ⟨⟨x, y⟩, -, rfl, rfl⟩ := spD_some h
    clear h
    refine ⟨⟨1, ?_⟩, scalOk_1 rfl⟩
    show den _ _ t_txSame1 [I x.p.tx, I x.p.at_, .l 2 (x.key.map eOp), I y.p.tx, I y.p.at_, .l 2 (y.key.map eOp)] [] = ret (decide (x = y))
    rw [← in_eq]
    unfold t_txSame1
    repeat' (first | refine dq1 ?_ | refine dqc ?_ | refine dqm ?_ | refine dqk rfl (sp_eqOps_at _ _) ?_ | refine dqK rfl (sp_eqOps_at _ _) ?_ | exact den_ret rfl rfl | refine tR (fun h => ?_) fun h => ?_ | refine tB (fun h => ?_) fun h => ?_ | refine tC (fun h => ?_) fun h => ?_ | refine tN (fun h => ?_) fun h => ?_ | refine tF (fun h => ?_) fun h => ?_ | refine tG (fun h => ?_) fun h => ?_ | refine tP (fun h => ?_) fun h => ?_ | refine tQ (fun h => ?_) fun h => ?_ | refine tA (fun h => ?_) fun h => ?_ | refine tO (fun h => ?_) fun h => ?_ | refine tU (fun h => ?_) fun h => ?_ | refine tV (fun h => ?_) fun h => ?_ | refine dqT ?_ | refine dqF ?_ | refine den_t rfl ?_ | refine den_f rfl ?_ | refine dqTn ?_ | refine dqFn ?_)
theorem m_efIn : Meets Tryd.prog sp_efIn 56 ⟨[.one, .one, .clos 57 []], [(false, [.scal])], true⟩ := by
  refine meets_fast (sp := (spsOf [(68, sp_txSame1)])) (sigs := sigsA) (cut := []) (hints := [⟨4, [.t 6, .t 17]⟩]) (fn := Tryd.f56) (t := t_efIn) (by kernel_rfl) (by kernel_rfl) (by kernel_rfl) ?_ ?_
  · exact (sig_of (L := [(68, sp_txSame1)]) ⟨sig_at rfl m_txSame1, trivial⟩)
  · rintro ds rs hok h
    obtain ⟨⟨l, m⟩, -, rfl, rfl⟩ := spD_some h
    clear h
    have hll := ok_l (hok (.l 3 (l.map eIn)) (List.mem_cons_self ..))
    refine ⟨⟨l.length + 1, ?_⟩, scalOk_1 rfl⟩
    show den _ _ t_efIn [.l 3 (l.map eIn), .l 3 (m.map eIn)] [] = ret (decide (l = m))
    rw [eq_by_len]
    unfold t_efIn
    repeat' (first | refine dq1 ?_ | refine dqc ?_ | refine dqm ?_ | exact den_ret rfl rfl | refine tR (fun h => ?_) fun h => ?_ | refine tB (fun h => ?_) fun h => ?_ | refine tC (fun h => ?_) fun h => ?_ | refine tN (fun h => ?_) fun h => ?_ | refine tF (fun h => ?_) fun h => ?_ | refine tG (fun h => ?_) fun h => ?_ | refine tP (fun h => ?_) fun h => ?_ | refine tQ (fun h => ?_) fun h => ?_ | refine tA (fun h => ?_) fun h => ?_ | refine tO (fun h => ?_) fun h => ?_ | refine tU (fun h => ?_) fun h => ?_ | refine tV (fun h => ?_) fun h => ?_ | refine dqT ?_ | refine dqF ?_ | refine den_t rfl ?_ | refine den_f rfl ?_ | refine dqTn ?_ | refine dqFn ?_)
    have hlm : l.length = m.length := by omega
    (refine den_range (fun (_ : Unit) k => [.b false, I k]) (fun (_ : Unit) k (r : List In) => decide (r = m.drop k)) (fun _ _ => True) () l ?_ ?_ ?_ ?_ ?_; rfl; exact trivial; first | exact Nat.lt_succ_self _ | omega)
    · rintro _ k x r hx hd hk - again hag
      have hy : m[k]? = some (m[k]'(by omega)) := List.getElem?_eq_getElem (by omega)
      have hdy : m.drop k = m[k]'(by omega) :: m.drop (k + 1) := List.drop_eq_getElem_cons (by omega)
      rw [hdy]
      generalize m[k]'(by omega) = y at *
      have e : decide (x :: r = y :: m.drop (k + 1)) = if decide (x = y) = true then decide (r = m.drop (k + 1)) else false := by
        by_cases h : x = y
        · simp [h]
        · simp [h]
      rw [e]
      have hkm : k < m.length := by omega
      repeat' (first | refine dq1 ?_ | refine dqc ?_ | refine dqm ?_ | refine dqk rfl (sp_txSame1_at x y) ?_ | refine dqK rfl (sp_txSame1_at x y) ?_ | exact den_ret rfl rfl | exact den_again rfl rfl (hag () trivial) | exact den_again rfl rfl (hag _ trivial) | exact den_again rfl rfl (hag _ (by omega)) | exact den_again rfl rfl (hag _ (by assumption)) | refine tR (fun h => ?_) fun h => ?_ | refine tB (fun h => ?_) fun h => ?_ | refine tC (fun h => ?_) fun h => ?_ | refine tN (fun h => ?_) fun h => ?_ | refine tF (fun h => ?_) fun h => ?_ | refine tG (fun h => ?_) fun h => ?_ | refine tP (fun h => ?_) fun h => ?_ | refine tQ (fun h => ?_) fun h => ?_ | refine tA (fun h => ?_) fun h => ?_ | refine tO (fun h => ?_) fun h => ?_ | refine tU (fun h => ?_) fun h => ?_ | refine tV (fun h => ?_) fun h => ?_ | refine dqT ?_ | refine dqF ?_ | refine den_t rfl ?_ | refine den_f rfl ?_ | refine dqTn ?_ | refine dqFn ?_)
    · rintro _ - again
      rw [hlm, List.drop_length]
      repeat' (first | refine dq1 ?_ | refine dqc ?_ | refine dqm ?_ | exact den_ret rfl rfl | refine tR (fun h => ?_) fun h => ?_ | refine tB (fun h => ?_) fun h => ?_ | refine tC (fun h => ?_) fun h => ?_ | refine tN (fun h => ?_) fun h => ?_ | refine tF (fun h => ?_) fun h => ?_ | refine tG (fun h => ?_) fun h => ?_ | refine tP (fun h => ?_) fun h => ?_ | refine tQ (fun h => ?_) fun h => ?_ | refine tA (fun h => ?_) fun h => ?_ | refine tO (fun h => ?_) fun h => ?_ | refine tU (fun h => ?_) fun h => ?_ | refine tV (fun h => ?_) fun h => ?_ | refine dqT ?_ | refine dqF ?_ | refine den_t rfl ?_ | refine den_f rfl ?_ | refine dqTn ?_ | refine dqFn ?_)
attribute [local irreducible] sp_txSameOut
theorem m_efOut : Meets Tryd.prog sp_efOut 58 ⟨[.one, .one, .clos 59 []], [(false, [.scal])], true⟩ := by
  refine meets_fast (sp := (spsOf [(20, sp_txSameOut)])) (sigs := sigsA) (cut := []) (hints := [⟨4, [.t 6, .t 17]⟩]) (fn := Tryd.f58) (t := t_efOut) (by kernel_rfl) (by kernel_rfl) (by kernel_rfl) ?_ ?_
  · exact (sig_of (L := [(20, sp_txSameOut)]) ⟨sig_at rfl m_txSameOut, trivial⟩)
  · rintro ds rs hok h
    obtain ⟨⟨l, m⟩, -, rfl, rfl⟩ := spD_some h
    clear h
    have hll := ok_l (hok (.l 2 (l.map eOut)) (List.mem_cons_self ..))
    refine ⟨⟨l.length + 1, ?_⟩, scalOk_1 rfl⟩
    show den _ _ t_efOut [.l 2 (l.map eOut), .l 2 (m.map eOut)] [] = ret (decide (l = m))
    rw [eq_by_len]
    unfold t_efOut
    repeat' (first | refine dq1 ?_ | refine dqc ?_ | refine dqm ?_ | exact den_ret rfl rfl | refine tR (fun h => ?_) fun h => ?_ | refine tB (fun h => ?_) fun h => ?_ | refine tC (fun h => ?_) fun h => ?_ | refine tN (fun h => ?_) fun h => ?_ | refine tF (fun h => ?_) fun h => ?_ | refine tG (fun h => ?_) fun h => ?_ | refine tP (fun h => ?_) fun h => ?_ | refine tQ (fun h => ?_) fun h => ?_ | refine tA (fun h => ?_) fun h => ?_ | refine tO (fun h => ?_) fun h => ?_ | refine tU (fun h => ?_) fun h => ?_ | refine tV (fun h => ?_) fun h => ?_ | refine dqT ?_ | refine dqF ?_ | refine den_t rfl ?_ | refine den_f rfl ?_ | refine dqTn ?_ | refine dqFn ?_)
    have hlm : l.length = m.length := by omega
    (refine den_range (fun (_ : Unit) k => [.b false, I k]) (fun (_ : Unit) k (r : List Out) => decide (r = m.drop k)) (fun _ _ => True) () l ?_ ?_ ?_ ?_ ?_; rfl; exact trivial; first | exact Nat.lt_succ_self _ | omega)
    · rintro _ k x r hx hd hk - again hag
      have hy : m[k]? = some (m[k]'(by omega)) := List.getElem?_eq_getElem (by omega)
      have hdy : m.drop k = m[k]'(by omega) :: m.drop (k + 1) := List.drop_eq_getElem_cons (by omega)
      rw [hdy]
      generalize m[k]'(by omega) = y at *
      have e : decide (x :: r = y :: m.drop (k + 1)) = if decide (x = y) = true then decide (r = m.drop (k + 1)) else false := by
        by_cases h : x = y
        · simp [h]
        · simp [h]
      rw [e]
      have hkm : k < m.length := by omega
      repeat' (first | refine dq1 ?_ | refine dqc ?_ | refine dqm ?_ | refine dqk rfl (sp_txSameOut_at x y) ?_ | refine dqK rfl (sp_txSameOut_at x y) ?_ | exact den_ret rfl rfl | exact den_again rfl rfl (hag () trivial) | exact den_again rfl rfl (hag _ trivial) | exact den_again rfl rfl (hag _ (by omega)) | exact den_again rfl rfl (hag _ (by assumption)) | refine tR (fun h => ?_) fun h => ?_ | refine tB (fun h => ?_) fun h => ?_ | refine tC (fun h => ?_) fun h => ?_ | refine tN (fun h => ?_) fun h => ?_ | refine tF (fun h => ?_) fun h => ?_ | refine tG (fun h => ?_) fun h => ?_ | refine tP (fun h => ?_) fun h => ?_ | refine tQ (fun h => ?_) fun h => ?_ | refine tA (fun h => ?_) fun h => ?_ | refine tO (fun h => ?_) fun h => ?_ | refine tU (fun h => ?_) fun h => ?_ | refine tV (fun h => ?_) fun h => ?_ | refine dqT ?_ | refine dqF ?_ | refine den_t rfl ?_ | refine den_f rfl ?_ | refine dqTn ?_ | refine dqFn ?_)
    · rintro _ - again
      rw [hlm, List.drop_length]
      repeat' (first | refine dq1 ?_ | refine dqc ?_ | refine dqm ?_ | exact den_ret rfl rfl | refine tR (fun h => ?_) fun h => ?_ | refine tB (fun h => ?_) fun h => ?_ | refine tC (fun h => ?_) fun h => ?_ | refine tN (fun h => ?_) fun h => ?_ | refine tF (fun h => ?_) fun h => ?_ | refine tG (fun h => ?_) fun h => ?_ | refine tP (fun h => ?_) fun h => ?_ | refine tQ (fun h => ?_) fun h => ?_ | refine tA (fun h => ?_) fun h => ?_ | refine tO (fun h => ?_) fun h => ?_ | refine tU (fun h => ?_) fun h => ?_ | refine tV (fun h => ?_) fun h => ?_ | refine dqT ?_ | refine dqF ?_ | refine den_t rfl ?_ | refine den_f rfl ?_ | refine dqTn ?_ | refine dqFn ?_)
attribute [local irreducible] sp_efIn
theorem m_txSame : Meets Tryd.prog sp_txSame 29 ⟨[.agg 3, .agg 3], [(false, [.scal])], true⟩ := by
  refine meets_fast (sp := (spsOf [(69, sp_efIn), (70, sp_efOut)])) (sigs := sigsA) (cut := []) (hints := []) (fn := Tryd.f29) (t := t_txSame) (by kernel_rfl) (by kernel_rfl) (by kernel_rfl) ?_ ?_
  · exact (sig_of (L := [(69, sp_efIn), (70, sp_efOut)]) ⟨sig_at rfl m_efIn, sig_at rfl m_efOut, trivial⟩)
  · rintro ds rs - h
    obtain ⟨⟨x, y⟩, -, rfl, rfl⟩ := spD_some h
    clear h
    refine ⟨⟨1, ?_⟩, scalOk_1 rfl⟩
    show den _ _ t_txSame [I x.height, .l 3 (x.ins.map eIn), .l 2 (x.outs.map eOut), I y.height, .l 3 (y.ins.map eIn), .l 2 (y.outs.map eOut)] [] = ret (decide (x = y))
    rw [← tx_eq]
    unfold t_txSame
    repeat' (first | refine dq1 ?_ | refine dqc ?_ | refine dqm ?_ | refine dqk rfl (sp_efIn_at _ _) ?_ | refine dqK rfl (sp_efIn_at _ _) ?_ | refine dqk rfl (sp_efOut_at _ _) ?_ | refine dqK rfl (sp_efOut_at _ _) ?_ | exact den_ret rfl rfl | refine tR (fun h => ?_) fun h => ?_ | refine tB (fun h => ?_) fun h => ?_ | refine tC (fun h => ?_) fun h => ?_ | refine tN (fun h => ?_) fun h => ?_ | refine tF (fun h => ?_) fun h => ?_ | refine tG (fun h => ?_) fun h => ?_ | refine tP (fun h => ?_) fun h => ?_ | refine tQ (fun h => ?_) fun h => ?_ | refine tA (fun h => ?_) fun h => ?_ | refine tO (fun h => ?_) fun h => ?_ | refine tU (fun h => ?_) fun h => ?_ | refine tV (fun h => ?_) fun h => ?_ | refine dqT ?_ | refine dqF ?_ | refine den_t rfl ?_ | refine den_f rfl ?_ | refine dqTn ?_ | refine dqFn ?_)
def tx0 : Tx := ⟨0, [⟨⟨3, 1⟩, [⟨1, 7⟩]⟩], [⟨5, [⟨1, 7⟩, ⟨7, 0⟩]⟩]⟩
def text0 : List UInt8 := [116, 120, 32, 48, 10, 105, 110, 32, 51, 32, 49, 58, 55, 10, 111, 117, 116, 32, 53, 58, 55, 32, 115, 97, 109, 101, 10]
theorem tx0_ok : txCheck tx0 = 0 := by with_unfolding_all decide +kernel
theorem tx0_text : txText tx0 = text0 := by with_unfolding_all decide +kernel
theorem tx0_read : readTx text0 = (tx0, 0) := by rw [← tx0_text]; exact read_print tx0_ok
theorem tx0_print : printTx tx0 = (text0, 0) := by rw [printTx_ok tx0_ok, tx0_text]
noncomputable def sp_lWritten : Spec := spD (fun _ : Unit => True) fun _ => true
theorem sp_lWritten_at : sp_lWritten [] = some [.b true] := spD_at (f := fun _ : Unit => true) () trivial
attribute [local irreducible] readTx printTx sp_txParse sp_txPrint
def t_lWritten_0 : T :=
  .ite (.v 15) (.lets [] [.inr 2 (.v 2) (.c (.i .i64 0))] (.lets [.idx (.v 2) (.c (.i .i64 0)) 0] [] (.lets [.bin .eql (.v 16) (.c (.i .i64 5))] [] (.ret [.v 17])))) (.ret [.c (.b
  false)])
def t_lWritten_1 : T :=
  .lets [.eqs false [(.v 11, .c (.i .i64 3)), (.v 12, .c (.i .i64 1))]] [] (.ite (.v 13) (.lets [.len (.v 2)] [] (.lets [.bin .eql (.v 14) (.c (.i .i64 1))] [] t_lWritten_0)) (.ret
  [.c (.b false)]))
def t_lWritten_2 : T :=
  .ite (.v 10) (.lets [] [.inr 3 (.v 1) (.c (.i .i64 0))] (.lets [.idx (.v 1) (.c (.i .i64 0)) 0, .idx (.v 1) (.c (.i .i64 0)) 1] [] t_lWritten_1)) (.ret [.c (.b false)])
def t_lWritten_3 : T :=
  .lets [.bin .eql (.v 4) (.c (.s [116, 120, 32, 48, 10, 105, 110, 32, 51, 32, 49, 58, 55, 10, 111, 117, 116, 32, 53, 58, 55, 32, 115, 97, 109, 101, 10]))] [] (.ite (.v 8) (.lets
  [.len (.v 1)] [] (.lets [.bin .eql (.v 9) (.c (.i .i64 1))] [] t_lWritten_2)) (.ret [.c (.b false)]))
def t_lWritten_4 : T :=
  .lets [.bin .eql (.v 3) (.c (.i .i64 0))] [] (.ite (.v 6) (.lets [.bin .eql (.v 5) (.c (.i .i64 0))] [] (.ite (.v 7) t_lWritten_3 (.ret [.c (.b false)]))) (.ret [.c (.b false)]))
def t_lWritten : T :=
  .lets [.call 62 [.c (.s [116, 120, 32, 48, 10, 105, 110, 32, 51, 32, 49, 58, 55, 10, 111, 117, 116, 32, 53, 58, 55, 32, 115, 97, 109, 101, 10])] 0, .call 62 [.c (.s [116, 120, 32,
  48, 10, 105, 110, 32, 51, 32, 49, 58, 55, 10, 111, 117, 116, 32, 53, 58, 55, 32, 115, 97, 109, 101, 10])] 1, .call 62 [.c (.s [116, 120, 32, 48, 10, 105, 110, 32, 51, 32, 49, 58,
  55, 10, 111, 117, 116, 32, 53, 58, 55, 32, 115, 97, 109, 101, 10])] 2, .call 62 [.c (.s [116, 120, 32, 48, 10, 105, 110, 32, 51, 32, 49, 58, 55, 10, 111, 117, 116, 32, 53, 58, 55,
  32, 115, 97, 109, 101, 10])] 3] [] (.lets [.call 63 [.v 0, .v 1, .v 2] 0, .call 63 [.v 0, .v 1, .v 2] 1] [] t_lWritten_4)
theorem m_lWritten : Meets Tryd.prog sp_lWritten 30 ⟨[], [(false, [.scal])], true⟩ := by
  refine meets_fast (sp := (spsOf [(62, sp_txParse), (63, sp_txPrint)])) (sigs := sigsA) (cut := []) (hints := []) (fn := Tryd.f30) (t := t_lWritten) (by kernel_rfl) (by kernel_rfl) (by kernel_rfl) ?_ ?_
  · exact (sig_of (L := [(62, sp_txParse), (63, sp_txPrint)]) ⟨sig_at rfl m_txParse, sig_at rfl m_txPrint, trivial⟩)
  · rintro ds rs - h
    obtain ⟨⟨⟩, -, rfl, rfl⟩ := spD_some h
    clear h
    refine ⟨⟨1, ?_⟩, scalOk_1 rfl⟩
    show den _ _ t_lWritten [] [] = ret true
    have a1 := sp_txParse_at text0
    rw [tx0_read] at a1
    have a2 := sp_txPrint_at tx0
    rw [tx0_print] at a2
    have x0 : tx0.ins[0]? = some ⟨⟨3, 1⟩, [⟨1, 7⟩]⟩ := rfl
    have x1 : tx0.outs[0]? = some ⟨5, [⟨1, 7⟩, ⟨7, 0⟩]⟩ := rfl
    have x2 : tx0.ins.length = 1 := rfl
    have x3 : tx0.outs.length = 1 := rfl
    unfold t_lWritten
    repeat' (first | refine dq1 ?_ | refine dqc ?_ | refine dqm ?_ | refine dqk rfl (a1) ?_ | refine dqK rfl (a1) ?_ | refine dqk rfl (a2) ?_ | refine dqK rfl (a2) ?_ | refine den_let1 (dx_eqP (p := ⟨3, 1⟩) (q := ⟨3, 1⟩) rfl rfl rfl rfl) ?_ | exact den_ret rfl rfl | refine tR (fun h => ?_) fun h => ?_ | refine tB (fun h => ?_) fun h => ?_ | refine tC (fun h => ?_) fun h => ?_ | refine tN (fun h => ?_) fun h => ?_ | refine tF (fun h => ?_) fun h => ?_ | refine tG (fun h => ?_) fun h => ?_ | refine tP (fun h => ?_) fun h => ?_ | refine tQ (fun h => ?_) fun h => ?_ | refine tA (fun h => ?_) fun h => ?_ | refine tO (fun h => ?_) fun h => ?_ | refine tU (fun h => ?_) fun h => ?_ | refine tV (fun h => ?_) fun h => ?_ | refine dqT ?_ | refine dqF ?_ | refine den_t rfl ?_ | refine den_f rfl ?_ | refine dqTn ?_ | refine dqFn ?_)
end Go.Proofs.YtajaacgchhmbjaaDoor
namespace Go.Proofs.YtajaacgchhmbjaaDoor
open Go.RowKit
open Go.Lib (itoa)
set_option linter.unusedVariables false
set_option linter.unusedSimpArgs false
set_option maxRecDepth 100000
set_option maxHeartbeats 8000000
attribute [local irreducible] specOf spD ordP itoa opsCheck txCheck readTx printTx txText
attribute [local irreducible] den denX denXs holdXs
noncomputable def sp_lTxTexts : Spec := spD (fun _ : Tx × Tx => True) fun _ => true
def t_lTxTexts_0 : T :=
  .ite (.v 18) (.ret [.c (.b true)]) (.lets [.bin .eql (.v 6) (.v 8)] [] (.lets [.call 71 [.v 0, .v 1, .v 2, .v 3, .v 4, .v 5] 0] [] (.lets [.beq false (.v 19) (.v 20)] [] (.ret [.v
  21]))))
def t_lTxTexts_1 : T :=
  .ite (.v 16) (.ret [.c (.b false)]) (.lets [.bin .neq (.v 7) (.c (.i .i64 0))] [] (.ite (.v 17) (.ret [.c (.b true)]) (.lets [.bin .neq (.v 9) (.c (.i .i64 0))] [] t_lTxTexts_0)))
def t_lTxTexts_2 : T :=
  .lets [.call 71 [.v 0, .v 1, .v 2, .v 3, .v 4, .v 5] 0] [] (.lets [.call 71 [.v 3, .v 4, .v 5, .v 0, .v 1, .v 2] 0] [] (.lets [.beq true (.v 14) (.v 15)] [] t_lTxTexts_1))
def t_lTxTexts_3 : T :=
  .ite (.v 11) (.ret [.c (.b false)]) (.lets [.call 71 [.v 0, .v 1, .v 2, .v 0, .v 1, .v 2] 0] [] (.lets [.not (.v 12)] [] (.ite (.v 13) (.ret [.c (.b false)]) t_lTxTexts_2)))
def t_lTxTexts : T :=
  .lets [.call 63 [.v 0, .v 1, .v 2] 0, .call 63 [.v 0, .v 1, .v 2] 1] [] (.lets [.call 63 [.v 3, .v 4, .v 5] 0, .call 63 [.v 3, .v 4, .v 5] 1] [] (.lets [.call 65 [] 0] [] (.lets
  [.not (.v 10)] [] t_lTxTexts_3)))
attribute [local irreducible] sp_lWritten sp_txPrint sp_txSame
theorem m_lTxTexts : Meets Tryd.prog sp_lTxTexts 8 ⟨[.agg 3, .agg 3], [(false, [.scal])], true⟩ := by
  refine meets_fast (sp := (spsOf [(63, sp_txPrint), (65, sp_lWritten), (71, sp_txSame)])) (sigs := sigsA) (cut := []) (hints := []) (fn := Tryd.f8) (t := t_lTxTexts) (by kernel_rfl) (by kernel_rfl) (by kernel_rfl) ?_ ?_
  · exact (sig_of (L := [(63, sp_txPrint), (65, sp_lWritten), (71, sp_txSame)]) ⟨sig_at rfl m_txPrint, sig_at rfl m_lWritten, sig_at rfl m_txSame, trivial⟩)
  · rintro ds rs - h
    obtain ⟨⟨t, u⟩, -, rfl, rfl⟩ := spD_some h
    clear h
    refine ⟨⟨1, ?_⟩, scalOk_1 rfl⟩
    show den _ _ t_lTxTexts [I t.height, .l 3 (t.ins.map eIn), .l 2 (t.outs.map eOut), I u.height, .l 3 (u.ins.map eIn), .l 2 (u.outs.map eOut)] [] = ret true
    have a1 := sp_txPrint_at t
    have a2 := sp_txPrint_at u
    have a3 := sp_lWritten_at
    have a4 := sp_txSame_at t t
    rw [decide_eq_true rfl] at a4
    have a5 := sp_txSame_at t u
    have a6 := sp_txSame_at u t
    rw [show decide (u = t) = decide (t = u) from decide_eq_decide.2 eq_comm] at a6
    have hT : txCheck t = 0 → txCheck u = 0 → decide (txText t = txText u) = decide (t = u) := fun h k => decide_eq_decide.2 ⟨txText_inj h k, fun e => e ▸ rfl⟩
    have h00 : ¬ (0 : Int) ≠ 0 := fun h => h rfl
    unfold t_lTxTexts
    by_cases ht : txCheck t = 0
    · rw [printTx_ok ht] at a1
      by_cases hu : txCheck u = 0
      · rw [printTx_ok hu] at a2
        have hT := hT ht hu
        generalize decide (t = u) = b at *
        cases b
        · repeat' (first | refine dq1 ?_ | refine dqc ?_ | refine dqm ?_ | refine dqk rfl (a1) ?_ | refine dqK rfl (a1) ?_ | refine dqk rfl (a2) ?_ | refine dqK rfl (a2) ?_ | refine dqk rfl (a3) ?_ | refine dqK rfl (a3) ?_ | refine dqk rfl (a4) ?_ | refine dqK rfl (a4) ?_ | refine dqk rfl (a5) ?_ | refine dqK rfl (a5) ?_ | refine dqk rfl (a6) ?_ | refine dqK rfl (a6) ?_ | exact den_ret rfl rfl | refine tR (fun h => ?_) fun h => ?_ | refine tB (fun h => ?_) fun h => ?_ | refine tC (fun h => ?_) fun h => ?_ | refine tN (fun h => ?_) fun h => ?_ | refine tF (fun h => ?_) fun h => ?_ | refine tG (fun h => ?_) fun h => ?_ | refine tP (fun h => ?_) fun h => ?_ | refine tQ (fun h => ?_) fun h => ?_ | refine tA (fun h => ?_) fun h => ?_ | refine tO (fun h => ?_) fun h => ?_ | refine tU (fun h => ?_) fun h => ?_ | refine tV (fun h => ?_) fun h => ?_ | refine dqT ?_ | refine dqF ?_ | refine den_t rfl ?_ | refine den_f rfl ?_ | refine dqTn ?_ | refine dqFn ?_)
          all_goals (simp only [hT]; exact den_ret rfl rfl)
        · repeat' (first | refine dq1 ?_ | refine dqc ?_ | refine dqm ?_ | refine dqk rfl (a1) ?_ | refine dqK rfl (a1) ?_ | refine dqk rfl (a2) ?_ | refine dqK rfl (a2) ?_ | refine dqk rfl (a3) ?_ | refine dqK rfl (a3) ?_ | refine dqk rfl (a4) ?_ | refine dqK rfl (a4) ?_ | refine dqk rfl (a5) ?_ | refine dqK rfl (a5) ?_ | refine dqk rfl (a6) ?_ | refine dqK rfl (a6) ?_ | exact den_ret rfl rfl | refine tR (fun h => ?_) fun h => ?_ | refine tB (fun h => ?_) fun h => ?_ | refine tC (fun h => ?_) fun h => ?_ | refine tN (fun h => ?_) fun h => ?_ | refine tF (fun h => ?_) fun h => ?_ | refine tG (fun h => ?_) fun h => ?_ | refine tP (fun h => ?_) fun h => ?_ | refine tQ (fun h => ?_) fun h => ?_ | refine tA (fun h => ?_) fun h => ?_ | refine tO (fun h => ?_) fun h => ?_ | refine tU (fun h => ?_) fun h => ?_ | refine tV (fun h => ?_) fun h => ?_ | refine dqT ?_ | refine dqF ?_ | refine den_t rfl ?_ | refine den_f rfl ?_ | refine dqTn ?_ | refine dqFn ?_)
          all_goals (simp only [hT]; exact den_ret rfl rfl)
      · have hp : printTx u = ([], txCheck u) := by with_unfolding_all exact if_pos hu
        rw [hp] at a2
        clear hT
        generalize decide (t = u) = b at *
        cases b
        · repeat' (first | refine dq1 ?_ | refine dqc ?_ | refine dqm ?_ | refine dqk rfl (a1) ?_ | refine dqK rfl (a1) ?_ | refine dqk rfl (a2) ?_ | refine dqK rfl (a2) ?_ | refine dqk rfl (a3) ?_ | refine dqK rfl (a3) ?_ | refine dqk rfl (a4) ?_ | refine dqK rfl (a4) ?_ | refine dqk rfl (a5) ?_ | refine dqK rfl (a5) ?_ | refine dqk rfl (a6) ?_ | refine dqK rfl (a6) ?_ | exact den_ret rfl rfl | refine tR (fun h => ?_) fun h => ?_ | refine tB (fun h => ?_) fun h => ?_ | refine tC (fun h => ?_) fun h => ?_ | refine tN (fun h => ?_) fun h => ?_ | refine tF (fun h => ?_) fun h => ?_ | refine tG (fun h => ?_) fun h => ?_ | refine tP (fun h => ?_) fun h => ?_ | refine tQ (fun h => ?_) fun h => ?_ | refine tA (fun h => ?_) fun h => ?_ | refine tO (fun h => ?_) fun h => ?_ | refine tU (fun h => ?_) fun h => ?_ | refine tV (fun h => ?_) fun h => ?_ | refine dqT ?_ | refine dqF ?_ | refine den_t rfl ?_ | refine den_f rfl ?_ | refine dqTn ?_ | refine dqFn ?_)
        · repeat' (first | refine dq1 ?_ | refine dqc ?_ | refine dqm ?_ | refine dqk rfl (a1) ?_ | refine dqK rfl (a1) ?_ | refine dqk rfl (a2) ?_ | refine dqK rfl (a2) ?_ | refine dqk rfl (a3) ?_ | refine dqK rfl (a3) ?_ | refine dqk rfl (a4) ?_ | refine dqK rfl (a4) ?_ | refine dqk rfl (a5) ?_ | refine dqK rfl (a5) ?_ | refine dqk rfl (a6) ?_ | refine dqK rfl (a6) ?_ | exact den_ret rfl rfl | refine tR (fun h => ?_) fun h => ?_ | refine tB (fun h => ?_) fun h => ?_ | refine tC (fun h => ?_) fun h => ?_ | refine tN (fun h => ?_) fun h => ?_ | refine tF (fun h => ?_) fun h => ?_ | refine tG (fun h => ?_) fun h => ?_ | refine tP (fun h => ?_) fun h => ?_ | refine tQ (fun h => ?_) fun h => ?_ | refine tA (fun h => ?_) fun h => ?_ | refine tO (fun h => ?_) fun h => ?_ | refine tU (fun h => ?_) fun h => ?_ | refine tV (fun h => ?_) fun h => ?_ | refine dqT ?_ | refine dqF ?_ | refine den_t rfl ?_ | refine den_f rfl ?_ | refine dqTn ?_ | refine dqFn ?_)
    · have hp : printTx t = ([], txCheck t) := by with_unfolding_all exact if_pos ht
      rw [hp] at a1
      clear hT
      generalize decide (t = u) = b at *
      cases b
      · repeat' (first | refine dq1 ?_ | refine dqc ?_ | refine dqm ?_ | refine dqk rfl (a1) ?_ | refine dqK rfl (a1) ?_ | refine dqk rfl (a2) ?_ | refine dqK rfl (a2) ?_ | refine dqk rfl (a3) ?_ | refine dqK rfl (a3) ?_ | refine dqk rfl (a4) ?_ | refine dqK rfl (a4) ?_ | refine dqk rfl (a5) ?_ | refine dqK rfl (a5) ?_ | refine dqk rfl (a6) ?_ | refine dqK rfl (a6) ?_ | exact den_ret rfl rfl | refine tR (fun h => ?_) fun h => ?_ | refine tB (fun h => ?_) fun h => ?_ | refine tC (fun h => ?_) fun h => ?_ | refine tN (fun h => ?_) fun h => ?_ | refine tF (fun h => ?_) fun h => ?_ | refine tG (fun h => ?_) fun h => ?_ | refine tP (fun h => ?_) fun h => ?_ | refine tQ (fun h => ?_) fun h => ?_ | refine tA (fun h => ?_) fun h => ?_ | refine tO (fun h => ?_) fun h => ?_ | refine tU (fun h => ?_) fun h => ?_ | refine tV (fun h => ?_) fun h => ?_ | refine dqT ?_ | refine dqF ?_ | refine den_t rfl ?_ | refine den_f rfl ?_ | refine dqTn ?_ | refine dqFn ?_)
      · repeat' (first | refine dq1 ?_ | refine dqc ?_ | refine dqm ?_ | refine dqk rfl (a1) ?_ | refine dqK rfl (a1) ?_ | refine dqk rfl (a2) ?_ | refine dqK rfl (a2) ?_ | refine dqk rfl (a3) ?_ | refine dqK rfl (a3) ?_ | refine dqk rfl (a4) ?_ | refine dqK rfl (a4) ?_ | refine dqk rfl (a5) ?_ | refine dqK rfl (a5) ?_ | refine dqk rfl (a6) ?_ | refine dqK rfl (a6) ?_ | exact den_ret rfl rfl | refine tR (fun h => ?_) fun h => ?_ | refine tB (fun h => ?_) fun h => ?_ | refine tC (fun h => ?_) fun h => ?_ | refine tN (fun h => ?_) fun h => ?_ | refine tF (fun h => ?_) fun h => ?_ | refine tG (fun h => ?_) fun h => ?_ | refine tP (fun h => ?_) fun h => ?_ | refine tQ (fun h => ?_) fun h => ?_ | refine tA (fun h => ?_) fun h => ?_ | refine tO (fun h => ?_) fun h => ?_ | refine tU (fun h => ?_) fun h => ?_ | refine tV (fun h => ?_) fun h => ?_ | refine dqT ?_ | refine dqF ?_ | refine den_t rfl ?_ | refine den_f rfl ?_ | refine dqTn ?_ | refine dqFn ?_)
theorem txTexts_walk (t : Tx) (c_t : List Value) (u : Tx) (c_u : List Value) (w : World) (h_t : shTx.rep w (Lt w.heap.size) t c_t) (h_u : shTx.rep w (Lt w.heap.size) u c_u) (hG : Glob w) :
    Calls Tryd.prog 8 #[.agg c_t.toArray, .agg c_u.toArray] w fun e w' => e = .returned (.bool true) ∧ Below w.heap.size w w' :=
  meets_calls (F := Lt w.heap.size) (us := [.agg c_t.toArray, .agg c_u.toArray]) rfl (en_of (fn := Tryd.f8) (by kernel_rfl) (by kernel_rfl) (by kernel_rfl)) m_lTxTexts ⟨fun _ h => h, hG⟩ (spD_at (f := fun _ => true) (t, u) trivial)
    (pks_mk_agg (d1 := eTx t) (she_tx.to h_t) rfl (pks_mk_agg (d1 := eTx u) (she_tx.to h_u) rfl pks_mk_nil))
noncomputable def sp_lTxBack : Spec := spD (fun _ : Tx × List UInt8 => True) fun _ => true
def t_lTxBack_0 : T :=
  .lets [.call 63 [.v 16, .v 17, .v 18] 0, .call 63 [.v 16, .v 17, .v 18] 1] [] (.lets [.bin .eql (.v 24) (.c (.i .i64 0))] [] (.ite (.v 25) (.lets [.bin .eql (.v 23) (.v 3)] [] (.ret
  [.v 26])) (.ret [.c (.b false)])))
def t_lTxBack_1 : T :=
  .ite (.v 21) (.lets [.call 65 [] 0] [] (.ret [.v 22])) (.lets [.bin .neq (.v 19) (.c (.i .i64 0))] [] (.ite (.v 22) (.lets [.call 65 [] 0] [] (.ret [.v 23])) t_lTxBack_0))
def t_lTxBack_2 : T :=
  .ite (.v 15) (.ret [.c (.b false)]) (.lets [.call 62 [.v 3] 0, .call 62 [.v 3] 1, .call 62 [.v 3] 2, .call 62 [.v 3] 3] [] (.lets [.call 65 [] 0] [] (.lets [.not (.v 20)] []
  t_lTxBack_1)))
def t_lTxBack_3 : T :=
  .lets [.bin .neq (.v 12) (.c (.i .i64 0))] [] (.ite (.v 13) (.ret [.c (.b false)]) (.lets [.call 71 [.v 0, .v 1, .v 2, .v 9, .v 10, .v 11] 0] [] (.lets [.not (.v 14)] []
  t_lTxBack_2)))
def t_lTxBack_4 : T :=
  .lets [.call 63 [.v 9, .v 10, .v 11] 0, .call 63 [.v 9, .v 10, .v 11] 1] [] (.lets [.bin .eql (.v 17) (.c (.i .i64 0))] [] (.ite (.v 18) (.lets [.bin .eql (.v 16) (.v 3)] [] (.ret
  [.v 19])) (.ret [.c (.b false)])))
def t_lTxBack_5 : T :=
  .ite (.v 14) (.lets [.call 65 [] 0] [] (.ret [.v 15])) (.lets [.bin .neq (.v 12) (.c (.i .i64 0))] [] (.ite (.v 15) (.lets [.call 65 [] 0] [] (.ret [.v 16])) t_lTxBack_4))
def t_lTxBack_6 : T :=
  .ite (.v 8) (.lets [.call 62 [.v 4] 0, .call 62 [.v 4] 1, .call 62 [.v 4] 2, .call 62 [.v 4] 3] [] t_lTxBack_3) (.lets [.call 62 [.v 3] 0, .call 62 [.v 3] 1, .call 62 [.v 3] 2,
  .call 62 [.v 3] 3] [] (.lets [.call 65 [] 0] [] (.lets [.not (.v 13)] [] t_lTxBack_5)))
def t_lTxBack_7 : T :=
  .lets [.call 63 [.v 7, .v 8, .v 9] 0, .call 63 [.v 7, .v 8, .v 9] 1] [] (.lets [.bin .eql (.v 15) (.c (.i .i64 0))] [] (.ite (.v 16) (.lets [.bin .eql (.v 14) (.v 3)] [] (.ret [.v
  17])) (.ret [.c (.b false)])))
def t_lTxBack_8 : T :=
  .ite (.v 12) (.lets [.call 65 [] 0] [] (.ret [.v 13])) (.lets [.bin .neq (.v 10) (.c (.i .i64 0))] [] (.ite (.v 13) (.lets [.call 65 [] 0] [] (.ret [.v 14])) t_lTxBack_7))
def t_lTxBack_9 : T :=
  .ite (.v 6) (.lets [.slen (.v 4)] [] (.lets [.bin .leq (.v 7) (.c (.i .i64 4000))] [] t_lTxBack_6)) (.lets [.call 62 [.v 3] 0, .call 62 [.v 3] 1, .call 62 [.v 3] 2, .call 62 [.v 3]
  3] [] (.lets [.call 65 [] 0] [] (.lets [.not (.v 11)] [] t_lTxBack_8)))
def t_lTxBack : T :=
  .lets [.call 63 [.v 0, .v 1, .v 2] 0, .call 63 [.v 0, .v 1, .v 2] 1] [] (.lets [.bin .eql (.v 5) (.c (.i .i64 0))] [] t_lTxBack_9)
attribute [local irreducible] sp_txParse
theorem m_lTxBack : Meets Tryd.prog sp_lTxBack 7 ⟨[.agg 3, .one], [(false, [.scal])], true⟩ := by
  refine meets_fast (sp := (spsOf [(62, sp_txParse), (63, sp_txPrint), (65, sp_lWritten), (71, sp_txSame)])) (sigs := sigsA) (cut := []) (hints := []) (fn := Tryd.f7) (t := t_lTxBack) (by kernel_rfl) (by kernel_rfl) (by kernel_rfl) ?_ ?_
  · exact (sig_of (L := [(62, sp_txParse), (63, sp_txPrint), (65, sp_lWritten), (71, sp_txSame)]) ⟨sig_at rfl m_txParse, sig_at rfl m_txPrint, sig_at rfl m_lWritten, sig_at rfl m_txSame, trivial⟩)
  · rintro ds rs - h
    obtain ⟨⟨t, s⟩, -, rfl, rfl⟩ := spD_some h
    clear h
    refine ⟨⟨1, ?_⟩, scalOk_1 rfl⟩
    show den _ _ t_lTxBack [I t.height, .l 3 (t.ins.map eIn), .l 2 (t.outs.map eOut), .s s] [] = ret true
    have a1 := sp_txPrint_at t
    have a3 := sp_lWritten_at
    have a4 := sp_txSame_at t t
    rw [decide_eq_true rfl] at a4
    have a5 := sp_txParse_at s
    have a6 := sp_txPrint_at (readTx s).1
    have h00 : ¬ (0 : Int) ≠ 0 := fun h => h rfl
    have hss : s = s := rfl
    have hr : (readTx s).2 = 0 → printTx (readTx s).1 = (s, 0) := fun h => by rw [printTx_ok (print_read h).1, (print_read h).2]
    unfold t_lTxBack
    by_cases ht : txCheck t = 0
    · have hl := txText_le ht
      have hlen : ((txText t).length : Int) ≤ 4000 := by omega
      rw [printTx_ok ht] at a1
      have a2 := sp_txParse_at (txText t)
      rw [read_print ht] at a2
      by_cases he : (readTx s).2 = 0
      · rw [hr he] at a6
        rw [he] at a5
        clear hr
        generalize (readTx s).1 = v at *
        generalize txText t = x at *
        repeat' (first | refine dq1 ?_ | refine dqc ?_ | refine dqm ?_ | refine dqk rfl (a1) ?_ | refine dqK rfl (a1) ?_ | refine dqk rfl (a2) ?_ | refine dqK rfl (a2) ?_ | refine dqk rfl (a3) ?_ | refine dqK rfl (a3) ?_ | refine dqk rfl (a4) ?_ | refine dqK rfl (a4) ?_ | refine dqk rfl (a5) ?_ | refine dqK rfl (a5) ?_ | refine dqk rfl (a6) ?_ | refine dqK rfl (a6) ?_ | exact den_ret rfl rfl | refine tR (fun h => ?_) fun h => ?_ | refine tB (fun h => ?_) fun h => ?_ | refine tC (fun h => ?_) fun h => ?_ | refine tN (fun h => ?_) fun h => ?_ | refine tF (fun h => ?_) fun h => ?_ | refine tG (fun h => ?_) fun h => ?_ | refine tP (fun h => ?_) fun h => ?_ | refine tQ (fun h => ?_) fun h => ?_ | refine tA (fun h => ?_) fun h => ?_ | refine tO (fun h => ?_) fun h => ?_ | refine tU (fun h => ?_) fun h => ?_ | refine tV (fun h => ?_) fun h => ?_ | refine dqT ?_ | refine dqF ?_ | refine den_t rfl ?_ | refine den_f rfl ?_ | refine dqTn ?_ | refine dqFn ?_)
      · clear hr a6
        generalize (readTx s).2 = e at *
        generalize txText t = x at *
        repeat' (first | refine dq1 ?_ | refine dqc ?_ | refine dqm ?_ | refine dqk rfl (a1) ?_ | refine dqK rfl (a1) ?_ | refine dqk rfl (a2) ?_ | refine dqK rfl (a2) ?_ | refine dqk rfl (a3) ?_ | refine dqK rfl (a3) ?_ | refine dqk rfl (a4) ?_ | refine dqK rfl (a4) ?_ | refine dqk rfl (a5) ?_ | refine dqK rfl (a5) ?_ | exact den_ret rfl rfl | refine tR (fun h => ?_) fun h => ?_ | refine tB (fun h => ?_) fun h => ?_ | refine tC (fun h => ?_) fun h => ?_ | refine tN (fun h => ?_) fun h => ?_ | refine tF (fun h => ?_) fun h => ?_ | refine tG (fun h => ?_) fun h => ?_ | refine tP (fun h => ?_) fun h => ?_ | refine tQ (fun h => ?_) fun h => ?_ | refine tA (fun h => ?_) fun h => ?_ | refine tO (fun h => ?_) fun h => ?_ | refine tU (fun h => ?_) fun h => ?_ | refine tV (fun h => ?_) fun h => ?_ | refine dqT ?_ | refine dqF ?_ | refine den_t rfl ?_ | refine den_f rfl ?_ | refine dqTn ?_ | refine dqFn ?_)
    · have hp : printTx t = ([], txCheck t) := by with_unfolding_all exact if_pos ht
      rw [hp] at a1
      generalize txCheck t = f at *
      by_cases he : (readTx s).2 = 0
      · rw [hr he] at a6
        rw [he] at a5
        clear hr
        generalize (readTx s).1 = v at *
        repeat' (first | refine dq1 ?_ | refine dqc ?_ | refine dqm ?_ | refine dqk rfl (a1) ?_ | refine dqK rfl (a1) ?_ | refine dqk rfl (a3) ?_ | refine dqK rfl (a3) ?_ | refine dqk rfl (a4) ?_ | refine dqK rfl (a4) ?_ | refine dqk rfl (a5) ?_ | refine dqK rfl (a5) ?_ | refine dqk rfl (a6) ?_ | refine dqK rfl (a6) ?_ | exact den_ret rfl rfl | refine tR (fun h => ?_) fun h => ?_ | refine tB (fun h => ?_) fun h => ?_ | refine tC (fun h => ?_) fun h => ?_ | refine tN (fun h => ?_) fun h => ?_ | refine tF (fun h => ?_) fun h => ?_ | refine tG (fun h => ?_) fun h => ?_ | refine tP (fun h => ?_) fun h => ?_ | refine tQ (fun h => ?_) fun h => ?_ | refine tA (fun h => ?_) fun h => ?_ | refine tO (fun h => ?_) fun h => ?_ | refine tU (fun h => ?_) fun h => ?_ | refine tV (fun h => ?_) fun h => ?_ | refine dqT ?_ | refine dqF ?_ | refine den_t rfl ?_ | refine den_f rfl ?_ | refine dqTn ?_ | refine dqFn ?_)
      · clear hr a6
        generalize (readTx s).2 = e at *
        repeat' (first | refine dq1 ?_ | refine dqc ?_ | refine dqm ?_ | refine dqk rfl (a1) ?_ | refine dqK rfl (a1) ?_ | refine dqk rfl (a3) ?_ | refine dqK rfl (a3) ?_ | refine dqk rfl (a4) ?_ | refine dqK rfl (a4) ?_ | refine dqk rfl (a5) ?_ | refine dqK rfl (a5) ?_ | exact den_ret rfl rfl | refine tR (fun h => ?_) fun h => ?_ | refine tB (fun h => ?_) fun h => ?_ | refine tC (fun h => ?_) fun h => ?_ | refine tN (fun h => ?_) fun h => ?_ | refine tF (fun h => ?_) fun h => ?_ | refine tG (fun h => ?_) fun h => ?_ | refine tP (fun h => ?_) fun h => ?_ | refine tQ (fun h => ?_) fun h => ?_ | refine tA (fun h => ?_) fun h => ?_ | refine tO (fun h => ?_) fun h => ?_ | refine tU (fun h => ?_) fun h => ?_ | refine tV (fun h => ?_) fun h => ?_ | refine dqT ?_ | refine dqF ?_ | refine den_t rfl ?_ | refine den_f rfl ?_ | refine dqTn ?_ | refine dqFn ?_)
theorem txBack_walk (t : Tx) (c_t : List Value) (s : List UInt8) (w : World) (h_t : shTx.rep w (Lt w.heap.size) t c_t) (s_l : s.length ≤ 9223372036854775807) (hG : Glob w) :
    Calls Tryd.prog 7 #[.agg c_t.toArray, .string ⟨s.toArray⟩] w fun e w' => e = .returned (.bool true) ∧ Below w.heap.size w w' :=
  meets_calls (F := Lt w.heap.size) (us := [.agg c_t.toArray, .string ⟨s.toArray⟩]) rfl (en_of (fn := Tryd.f7) (by kernel_rfl) (by kernel_rfl) (by kernel_rfl)) m_lTxBack ⟨fun _ h => h, hG⟩ (spD_at (f := fun _ => true) (t, s) trivial)
    (pks_mk_agg (d1 := eTx t) (she_tx.to h_t) rfl (pks_mk_one (.s _ s_l) pks_mk_nil))
end Go.Proofs.YtajaacgchhmbjaaDoor
