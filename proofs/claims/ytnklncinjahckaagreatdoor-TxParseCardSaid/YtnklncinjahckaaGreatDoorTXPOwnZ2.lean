/- Own texts, put together by wip/bundle.py: VL7, VS4, VB4, VU3, VU4, VB5, VU5, VL8, VT4, VB7, VW10. -/
import Derived.Test.YtnklncinjahckaaGreatDoorTXPOwnB
import Derived.Test.YtnklncinjahckaaGreatDoorTXPOwnR
import Derived.Test.YtnklncinjahckaaGreatDoorTXPOwnS
import Derived.Test.YtnklncinjahckaaGreatDoorTXPOwnV3
import Derived.Test.YtnklncinjahckaaGreatDoorTXPOwnZ1
namespace Go.Proofs.YtnklncinjahckaaGreatDoor
open Go.RowKit
open Go.Lib (itoa atoiAll atoiSat)
set_option linter.unusedVariables false
set_option linter.unusedSimpArgs false
set_option maxRecDepth 100000
set_option maxHeartbeats 4000000
section
variable {sp : Nat → Spec} {N : Nat} {E E' : Env} {ks : List (List Dt → Option (List Dt))} {res : Option (List Dt)}
theorem dx_ise {neg : Bool} {a : Atom} {x : Bool} (ha : a.val E = some (.e x)) : denX sp E (.ise neg a) = some (.b (x == neg)) := by simp only [denX, ha]
end
theorem whole_none {w : List UInt8} (h : (atoiOf w).2.is = true) : wholeOf w = none := by
  unfold atoiOf at h
  unfold wholeOf
  cases ha : atoiAll w with
  | ok v => rw [ha] at h; cases h
  | _ => rfl
theorem whole_some {w : List UInt8} (h : (atoiOf w).2.is = false) : wholeOf w = if itoa (atoiOf w).1 = w then some (atoiOf w).1 else none := by
  unfold atoiOf at h ⊢
  unfold wholeOf
  cases ha : atoiAll w with
  | ok v => rfl
  | _ => rw [ha] at h; cases h
theorem nm_get (k : Nat) (h : k < 14) : (opNames.map Dt.s)[(k : Int).toNat]? = some (.s ((opNames[k]?).getD [])) := by
  have hl : opNames.length = 14 := rfl
  rw [Int.toNat_natCast, List.getElem?_map, List.getElem?_eq_getElem (by omega)]
  rfl
theorem kindGo_bd (w : List UInt8) : ∀ (l : List (List UInt8)) (k r : Int), 0 ≤ k → 0 ≤ r → r ≤ 13 → k + l.length ≤ 14 → 0 ≤ kindGo w k r l ∧ kindGo w k r l ≤ 13
  | [], k, r, _, h0, h1, _ => ⟨h0, h1⟩
  | n :: l, k, r, hk, h0, h1, h2 => by
    rw [kindGo]
    simp only [List.length_cons] at h2
    refine kindGo_bd w l (k + 1) _ (by omega) (by split <;> omega) (by split <;> omega) (by omega)
noncomputable def sp_lockParse : Spec := spD (fun _ : List UInt8 => True) fun s => readOf s
theorem sp_lockParse_at (s : List UInt8) : sp_lockParse [.s s] = some [.l 2 ((readOf s).1.map eOp), I (readOf s).2] := spD_at (f := fun s : List UInt8 => readOf s) s trivial
def readGo (acc : List Op) (ws : List (List UInt8)) : List Op × Int := match wordsOp ws with
  | none => ([], 1)
  | some l => if opsCheck (acc ++ l) ≠ 0 then ([], opsCheck (acc ++ l)) else (acc ++ l, 0)
theorem readGo_cons (acc : List Op) (w : List UInt8) (ws : List (List UInt8)) : readGo acc (w :: ws) = match wordOp w with
  | none => ([], 1)
  | some o => readGo (acc ++ [o]) ws := by
  unfold readGo
  rw [wordsOp]
  cases wordOp w with
  | none => rfl
  | some o =>
    cases wordsOp ws with
    | none => rfl
    | some l => simp only [Option.map_some, List.append_assoc, List.singleton_append]
theorem readOf_go (s : List UInt8) : readOf s = if 4000 < (s.length : Int) then ([], 2) else if s = [] then ([], 0) else readGo [] (cutAt 32 s) := by
  unfold readOf readGo
  rfl
theorem readGo_nil (acc : List Op) : readGo acc [] = if opsCheck acc ≠ 0 then ([], opsCheck acc) else (acc, 0) := by
  unfold readGo
  rw [wordsOp]
  simp only [List.append_nil]
theorem wordOp_zero {w : List UInt8} (h : kindOf w = 0) : wordOp w = (wholeOf w).map fun n => ⟨1, n⟩ := if_pos h
theorem wordOp_kind {w : List UInt8} (h : ¬ kindOf w = 0) : wordOp w = some ⟨kindOf w, 0⟩ := if_neg h
theorem kindGo_snoc (w n : List UInt8) : ∀ (l : List (List UInt8)) (k r : Int), kindGo w k r (l ++ [n]) = if n = w ∧ n ≠ [] then k + l.length else kindGo w k r l
  | [], k, r => by simp only [List.nil_append, kindGo, List.length_nil]; split <;> simp
  | m :: l, k, r => by
    rw [List.cons_append, kindGo, kindGo, kindGo_snoc w n l (k + 1)]
    split
    · simp only [List.length_cons]; omega
    · rfl
theorem kind_next (w : List UInt8) (i : Nat) (h : i < 14) : kindGo w 0 0 (opNames.take (i + 1)) = if (opNames[i]?).getD [] = w ∧ (opNames[i]?).getD [] ≠ [] then (i : Int) else kindGo w 0 0 (opNames.take i) := by
  have hl : opNames.length = 14 := rfl
  rw [List.take_add_one, List.getElem?_eq_getElem (by omega)]
  simp only [Option.toList_some, Option.getD_some]
  rw [kindGo_snoc, List.length_take]
  split
  · omega
  · rfl
attribute [local irreducible] den denX denXs holdXs
attribute [local irreducible] specOf spD ordP itoa opsCheck openOf joinC sp_lockNames readGo atoiOf cutAt wordOp kindGo kindOf
def t_lockParse_0 : T :=
  .ite (.v 32) (.lets [.bin .add (.v 26) (.c (.i .i64 1))] [] (.again 1 [.v 33, .v 26, .v 28])) (.lets [.bin .add (.v 26) (.c (.i .i64 1))] [] (.again 1 [.v 33, .v 27, .v 28]))
def t_lockParse_1 : T :=
  .lets [.bin .eql (.v 30) (.v 11)] [] (.ite (.v 31) (.lets [.bin .neq (.v 30) (.c (.s []))] [] t_lockParse_0) (.lets [.bin .add (.v 26) (.c (.i .i64 1))] [] (.again 1 [.v 32, .v 27,
  .v 28])))
def t_lockParse_2 : T :=
  .lets [.mk 2 [[.c (.i .i64 1), .v 31]]] [] (.lets [.app 2 (.v 8) (.v 36)] [] (.lets [.bin .add (.v 9) (.c (.i .i64 1))] [] (.again 0 [.v 6, .v 7, .v 37, .v 38])))
def t_lockParse_3 : T :=
  .ite (.v 33) (.ret [.c (.nil 2), .c (.i .i64 1)]) (.lets [.call 37 [.v 31] 0] [] (.lets [.bin .neq (.v 34) (.v 11)] [] (.ite (.v 35) (.ret [.c (.nil 2), .c (.i .i64 1)])
  t_lockParse_2)))
def t_lockParse_4 : T :=
  .ite (.v 30) (.lets [.call 42 [.v 11] 0, .call 42 [.v 11] 1] [] (.lets [.ise true (.v 32)] [] t_lockParse_3)) (.lets [.mk 2 [[.v 27, .v 28]]] [] (.lets [.app 2 (.v 8) (.v 31)] []
  (.lets [.bin .add (.v 9) (.c (.i .i64 1))] [] (.again 0 [.v 6, .v 7, .v 32, .v 33]))))
def t_lockParse_5 : T :=
  .ite (.v 29) (.lets [.sel [.v 12, .v 13, .v 14, .v 15, .v 16, .v 17, .v 18, .v 19, .v 20, .v 21, .v 22, .v 23, .v 24, .v 25] (.v 26)] [] t_lockParse_1) (.lets [.bin .eql (.v 27) (.c
  (.i .i64 0))] [] t_lockParse_4)
def t_lockParse_6 : T :=
  .lets [.call 39 [] 0, .call 39 [] 1, .call 39 [] 2, .call 39 [] 3, .call 39 [] 4, .call 39 [] 5, .call 39 [] 6, .call 39 [] 7, .call 39 [] 8, .call 39 [] 9, .call 39 [] 10, .call 39
  [] 11, .call 39 [] 12, .call 39 [] 13] [] (.loop [.c (.i .i64 0), .c (.i .i64 0), .c (.i .i64 0)] (.lets [.bin .lss (.v 26) (.c (.i .i64 14))] [] t_lockParse_5))
def t_lockParse_7 : T :=
  .ite (.v 10) (.lets [] [.inr 1 (.v 4) (.v 9)] (.lets [.idx (.v 4) (.v 9) 0] [] t_lockParse_6)) (.lets [.call 7 [.v 8] 0] [] (.lets [.bin .neq (.v 11) (.c (.i .i64 0))] [] (.ite (.v
  12) (.ret [.c (.nil 2), .v 11]) (.ret [.v 8, .c (.i .i64 0)]))))
def t_lockParse_8 : T :=
  .lets [.call 41 [.v 0, .c (.s [32])] 0] [] (.lets [.len (.v 4)] [] (.loop [.c (.nil 2), .c (.i .i64 0), .c (.nil 2), .c (.i .i64 0)] (.lets [.bin .lss (.v 9) (.v 5)] []
  t_lockParse_7)))
def t_lockParse_9 : T :=
  .lets [.bin .gtr (.v 1) (.c (.i .i64 4000))] [] (.ite (.v 2) (.ret [.c (.nil 2), .c (.i .i64 2)]) (.lets [.bin .eql (.v 0) (.c (.s []))] [] (.ite (.v 3) (.ret [.c (.nil 2), .c (.i
  .i64 0)]) t_lockParse_8)))
def t_lockParse : T :=
  .lets [.slen (.v 0)] [] t_lockParse_9
attribute [local irreducible] sp_atoi sp_itoa sp_lockCheck sp_strSplit
theorem m_lockParse : Meets Tryz.prog sp_lockParse 126 ⟨[.one], [(false, [.fresh 88 2]), (false, [.scal])], false⟩ := by
  refine meets_fast (sp := (spsOf [(7, sp_lockCheck), (37, sp_itoa), (39, sp_lockNames), (41, sp_strSplit), (42, sp_atoi)])) (sigs := sigsA) (cut := []) (hints := [⟨7, [.r 2 88 2, .t 3, .r 4 88 2, .t 21]⟩, ⟨11, [.t 27, .o 7]⟩]) (fn := Tryz.f126) (t := t_lockParse) (by kernel_rfl) (by kernel_rfl) (by kernel_rfl) ?_ ?_
  · exact (sig_of (L := [(7, sp_lockCheck), (37, sp_itoa), (39, sp_lockNames), (41, sp_strSplit), (42, sp_atoi)]) ⟨sig_at rfl m_lockCheck, sig_at rfl m_itoa, sig_at rfl m_lockNames, sig_at rfl m_strSplit, sig_at rfl m_atoi, trivial⟩)
  · rintro ds rs hok h
    obtain ⟨s, -, rfl, rfl⟩ := spD_some h
    clear h
    refine ⟨⟨s.length + 20, ?_⟩, ?_⟩
    · show den _ _ t_lockParse [.s s] [] = ret (readOf s)
      rw [readOf_go]
      unfold t_lockParse
      repeat' (first | refine dq1 ?_ | refine dqc ?_ | refine dqm ?_ | exact den_ret rfl rfl | refine tR (fun h => ?_) fun h => ?_ | refine tB (fun h => ?_) fun h => ?_ | refine tC (fun h => ?_) fun h => ?_ | refine tN (fun h => ?_) fun h => ?_ | refine tF (fun h => ?_) fun h => ?_ | refine tG (fun h => ?_) fun h => ?_ | refine tP (fun h => ?_) fun h => ?_ | refine tQ (fun h => ?_) fun h => ?_ | refine tA (fun h => ?_) fun h => ?_ | refine tO (fun h => ?_) fun h => ?_ | refine tU (fun h => ?_) fun h => ?_ | refine tV (fun h => ?_) fun h => ?_ | refine dqT ?_ | refine dqF ?_ | refine den_t rfl ?_ | refine den_f rfl ?_ | refine dqTn ?_ | refine dqFn ?_)
      have hs4 : s.length ≤ 4000 := by omega
      have hcl := cutAt_len 32 s
      repeat' (first | refine dq1 ?_ | refine dqc ?_ | refine dqm ?_ | refine dqk rfl (sp_strSplit_at s 32 (by omega)) ?_ | refine dqK rfl (sp_strSplit_at s 32 (by omega)) ?_ | exact den_ret rfl rfl | refine tR (fun h => ?_) fun h => ?_ | refine tB (fun h => ?_) fun h => ?_ | refine tC (fun h => ?_) fun h => ?_ | refine tN (fun h => ?_) fun h => ?_ | refine tF (fun h => ?_) fun h => ?_ | refine tG (fun h => ?_) fun h => ?_ | refine tP (fun h => ?_) fun h => ?_ | refine tQ (fun h => ?_) fun h => ?_ | refine tA (fun h => ?_) fun h => ?_ | refine tO (fun h => ?_) fun h => ?_ | refine tU (fun h => ?_) fun h => ?_ | refine tV (fun h => ?_) fun h => ?_ | refine dqT ?_ | refine dqF ?_ | refine den_t rfl ?_ | refine den_f rfl ?_ | refine dqTn ?_ | refine dqFn ?_)
      (refine den_range (fun (a : List Op) k => [.l 2 [], I 0, .l 2 (a.map eOp), I k]) (fun (a : List Op) _ (r : List (List UInt8)) => readGo a r) (fun a k => a.length = k) [] (cutAt 32 s) ?_ ?_ ?_ ?_ ?_; rfl; exact rfl; omega)
      · rintro a k w r hx hd hk ha again hag
        have hw := hcl.2 w (List.mem_of_getElem? hx)
        rw [readGo_cons]
        have hk0 := (kindGo_bd w opNames 0 0 (by decide) (by decide) (by decide) (by decide)).1
        repeat' (first | refine dq1 ?_ | refine dqc ?_ | refine dqm ?_ | refine dqk rfl (sp_lockNames_at) ?_ | refine dqK rfl (sp_lockNames_at) ?_ | exact den_ret rfl rfl | refine tR (fun h => ?_) fun h => ?_ | refine tB (fun h => ?_) fun h => ?_ | refine tC (fun h => ?_) fun h => ?_ | refine tN (fun h => ?_) fun h => ?_ | refine tF (fun h => ?_) fun h => ?_ | refine tG (fun h => ?_) fun h => ?_ | refine tP (fun h => ?_) fun h => ?_ | refine tQ (fun h => ?_) fun h => ?_ | refine tA (fun h => ?_) fun h => ?_ | refine tO (fun h => ?_) fun h => ?_ | refine tU (fun h => ?_) fun h => ?_ | refine tV (fun h => ?_) fun h => ?_ | refine dqT ?_ | refine dqF ?_ | refine den_t rfl ?_ | refine den_f rfl ?_ | refine dqTn ?_ | refine dqFn ?_)
        (refine den_loop' (st := fun i => [I i, I (kindGo w 0 0 (opNames.take i)), I 0]) (n := 14) (by with_unfolding_all rfl) (by omega) ?_ ?_)
        · intro i hi again' hag'
          have hn := nm_get i hi
          have hag' : again' [I ((i : Int) + 1), I (kindGo w 0 0 (opNames.take (i + 1))), I 0] = _ := hag'
          rw [kind_next w i hi] at hag'
          generalize (opNames[i]?).getD [] = nm at *
          repeat' (first | refine dq1 ?_ | refine dqc ?_ | refine dqm ?_ | refine den_let1 (dx_sel rfl rfl (by omega) hn) ?_ | exact den_ret rfl rfl | refine tR (fun h => ?_) fun h => ?_ | refine tB (fun h => ?_) fun h => ?_ | refine tC (fun h => ?_) fun h => ?_ | refine tN (fun h => ?_) fun h => ?_ | refine tF (fun h => ?_) fun h => ?_ | refine tG (fun h => ?_) fun h => ?_ | refine tP (fun h => ?_) fun h => ?_ | refine tQ (fun h => ?_) fun h => ?_ | refine tA (fun h => ?_) fun h => ?_ | refine tO (fun h => ?_) fun h => ?_ | refine tU (fun h => ?_) fun h => ?_ | refine tV (fun h => ?_) fun h => ?_ | refine dqT ?_ | refine dqF ?_ | refine den_t rfl ?_ | refine den_f rfl ?_ | refine dqTn ?_ | refine dqFn ?_)
          refine den_sp rfl (fun h1 => ?_) (fun h1 => ?_)
          · repeat' (first | refine dq1 ?_ | refine dqc ?_ | refine dqm ?_ | exact den_ret rfl rfl | refine tR (fun h => ?_) fun h => ?_ | refine tB (fun h => ?_) fun h => ?_ | refine tC (fun h => ?_) fun h => ?_ | refine tN (fun h => ?_) fun h => ?_ | refine tF (fun h => ?_) fun h => ?_ | refine tG (fun h => ?_) fun h => ?_ | refine tP (fun h => ?_) fun h => ?_ | refine tQ (fun h => ?_) fun h => ?_ | refine tA (fun h => ?_) fun h => ?_ | refine tO (fun h => ?_) fun h => ?_ | refine tU (fun h => ?_) fun h => ?_ | refine tV (fun h => ?_) fun h => ?_ | refine dqT ?_ | refine dqF ?_ | refine den_t rfl ?_ | refine den_f rfl ?_ | refine dqTn ?_ | refine dqFn ?_)
            refine den_sp rfl (fun h2 => ?_) (fun h2 => ?_)
            · rw [if_pos ⟨h1, h2⟩] at hag'
              repeat' (first | refine dq1 ?_ | refine dqc ?_ | refine dqm ?_ | exact den_ret rfl rfl | refine tR (fun h => ?_) fun h => ?_ | refine tB (fun h => ?_) fun h => ?_ | refine tC (fun h => ?_) fun h => ?_ | refine tN (fun h => ?_) fun h => ?_ | refine tF (fun h => ?_) fun h => ?_ | refine tG (fun h => ?_) fun h => ?_ | refine tP (fun h => ?_) fun h => ?_ | refine tQ (fun h => ?_) fun h => ?_ | refine tA (fun h => ?_) fun h => ?_ | refine tO (fun h => ?_) fun h => ?_ | refine tU (fun h => ?_) fun h => ?_ | refine tV (fun h => ?_) fun h => ?_ | refine dqT ?_ | refine dqF ?_ | refine den_t rfl ?_ | refine den_f rfl ?_ | refine dqTn ?_ | refine dqFn ?_)
              exact den_again rfl rfl hag'
            · rw [if_neg (fun h => h2 h.2)] at hag'
              repeat' (first | refine dq1 ?_ | refine dqc ?_ | refine dqm ?_ | exact den_ret rfl rfl | refine tR (fun h => ?_) fun h => ?_ | refine tB (fun h => ?_) fun h => ?_ | refine tC (fun h => ?_) fun h => ?_ | refine tN (fun h => ?_) fun h => ?_ | refine tF (fun h => ?_) fun h => ?_ | refine tG (fun h => ?_) fun h => ?_ | refine tP (fun h => ?_) fun h => ?_ | refine tQ (fun h => ?_) fun h => ?_ | refine tA (fun h => ?_) fun h => ?_ | refine tO (fun h => ?_) fun h => ?_ | refine tU (fun h => ?_) fun h => ?_ | refine tV (fun h => ?_) fun h => ?_ | refine dqT ?_ | refine dqF ?_ | refine den_t rfl ?_ | refine den_f rfl ?_ | refine dqTn ?_ | refine dqFn ?_)
              exact den_again rfl rfl hag'
          · rw [if_neg (fun h => h1 h.1)] at hag'
            repeat' (first | refine dq1 ?_ | refine dqc ?_ | refine dqm ?_ | exact den_ret rfl rfl | refine tR (fun h => ?_) fun h => ?_ | refine tB (fun h => ?_) fun h => ?_ | refine tC (fun h => ?_) fun h => ?_ | refine tN (fun h => ?_) fun h => ?_ | refine tF (fun h => ?_) fun h => ?_ | refine tG (fun h => ?_) fun h => ?_ | refine tP (fun h => ?_) fun h => ?_ | refine tQ (fun h => ?_) fun h => ?_ | refine tA (fun h => ?_) fun h => ?_ | refine tO (fun h => ?_) fun h => ?_ | refine tU (fun h => ?_) fun h => ?_ | refine tV (fun h => ?_) fun h => ?_ | refine dqT ?_ | refine dqF ?_ | refine den_t rfl ?_ | refine den_f rfl ?_ | refine dqTn ?_ | refine dqFn ?_)
            exact den_again rfl rfl hag'
        · intro again'
          have ek : kindGo w 0 0 (opNames.take 14) = kindOf w := by with_unfolding_all rfl
          simp only [ek]
          have hko : 0 ≤ kindOf w := by with_unfolding_all exact hk0
          have a9 := sp_atoi_at w (by omega)
          repeat' (first | refine dq1 ?_ | refine dqc ?_ | refine dqm ?_ | exact den_ret rfl rfl | refine tR (fun h => ?_) fun h => ?_ | refine tB (fun h => ?_) fun h => ?_ | refine tC (fun h => ?_) fun h => ?_ | refine tN (fun h => ?_) fun h => ?_ | refine tF (fun h => ?_) fun h => ?_ | refine tG (fun h => ?_) fun h => ?_ | refine tP (fun h => ?_) fun h => ?_ | refine tQ (fun h => ?_) fun h => ?_ | refine tA (fun h => ?_) fun h => ?_ | refine tO (fun h => ?_) fun h => ?_ | refine tU (fun h => ?_) fun h => ?_ | refine tV (fun h => ?_) fun h => ?_ | refine dqT ?_ | refine dqF ?_ | refine den_t rfl ?_ | refine den_f rfl ?_ | refine dqTn ?_ | refine dqFn ?_)
          refine den_sp rfl (fun h1 => ?_) (fun h1 => ?_)
          · rw [wordOp_zero h1]
            cases hi : (atoiOf w).2.is with
            | true =>
              rw [whole_none hi]
              rw [hi] at a9
              repeat' (first | refine dq1 ?_ | refine dqc ?_ | refine dqm ?_ | refine dqk rfl (a9) ?_ | refine dqK rfl (a9) ?_ | refine den_let1 (dx_ise rfl) ?_ | exact den_ret rfl rfl | refine tR (fun h => ?_) fun h => ?_ | refine tB (fun h => ?_) fun h => ?_ | refine tC (fun h => ?_) fun h => ?_ | refine tN (fun h => ?_) fun h => ?_ | refine tF (fun h => ?_) fun h => ?_ | refine tG (fun h => ?_) fun h => ?_ | refine tP (fun h => ?_) fun h => ?_ | refine tQ (fun h => ?_) fun h => ?_ | refine tA (fun h => ?_) fun h => ?_ | refine tO (fun h => ?_) fun h => ?_ | refine tU (fun h => ?_) fun h => ?_ | refine tV (fun h => ?_) fun h => ?_ | refine dqT ?_ | refine dqF ?_ | refine den_t rfl ?_ | refine den_f rfl ?_ | refine dqTn ?_ | refine dqFn ?_)
            | false =>
              rw [whole_some hi]
              rw [hi] at a9
              generalize (atoiOf w).1 = n at *
              repeat' (first | refine dq1 ?_ | refine dqc ?_ | refine dqm ?_ | refine dqk rfl (a9) ?_ | refine dqK rfl (a9) ?_ | refine dqk rfl (sp_itoa_at _) ?_ | refine dqK rfl (sp_itoa_at _) ?_ | refine den_let1 (dx_ise rfl) ?_ | exact den_ret rfl rfl | refine tR (fun h => ?_) fun h => ?_ | refine tB (fun h => ?_) fun h => ?_ | refine tC (fun h => ?_) fun h => ?_ | refine tN (fun h => ?_) fun h => ?_ | refine tF (fun h => ?_) fun h => ?_ | refine tG (fun h => ?_) fun h => ?_ | refine tP (fun h => ?_) fun h => ?_ | refine tQ (fun h => ?_) fun h => ?_ | refine tA (fun h => ?_) fun h => ?_ | refine tO (fun h => ?_) fun h => ?_ | refine tU (fun h => ?_) fun h => ?_ | refine tV (fun h => ?_) fun h => ?_ | refine dqT ?_ | refine dqF ?_ | refine den_t rfl ?_ | refine den_f rfl ?_ | refine dqTn ?_ | refine dqFn ?_)
              refine den_sp rfl (fun h2 => ?_) (fun h2 => ?_)
              · rw [if_neg h2]
                repeat' (first | refine dq1 ?_ | refine dqc ?_ | refine dqm ?_ | exact den_ret rfl rfl | refine tR (fun h => ?_) fun h => ?_ | refine tB (fun h => ?_) fun h => ?_ | refine tC (fun h => ?_) fun h => ?_ | refine tN (fun h => ?_) fun h => ?_ | refine tF (fun h => ?_) fun h => ?_ | refine tG (fun h => ?_) fun h => ?_ | refine tP (fun h => ?_) fun h => ?_ | refine tQ (fun h => ?_) fun h => ?_ | refine tA (fun h => ?_) fun h => ?_ | refine tO (fun h => ?_) fun h => ?_ | refine tU (fun h => ?_) fun h => ?_ | refine tV (fun h => ?_) fun h => ?_ | refine dqT ?_ | refine dqF ?_ | refine den_t rfl ?_ | refine den_f rfl ?_ | refine dqTn ?_ | refine dqFn ?_)
              · have h2 := Decidable.not_not.1 h2
                rw [if_pos h2]
                simp only [Option.map_some]
                repeat' (first | refine dq1 ?_ | refine dqc ?_ | refine dqm ?_ | refine den_let1 (den_mk rfl rfl (by simp)) ?_ | refine den_let1 (dx_app1 (x := ⟨1, n⟩) (fun _ => rfl) rfl rfl (by omega)) ?_ | exact den_ret rfl rfl | refine tR (fun h => ?_) fun h => ?_ | refine tB (fun h => ?_) fun h => ?_ | refine tC (fun h => ?_) fun h => ?_ | refine tN (fun h => ?_) fun h => ?_ | refine tF (fun h => ?_) fun h => ?_ | refine tG (fun h => ?_) fun h => ?_ | refine tP (fun h => ?_) fun h => ?_ | refine tQ (fun h => ?_) fun h => ?_ | refine tA (fun h => ?_) fun h => ?_ | refine tO (fun h => ?_) fun h => ?_ | refine tU (fun h => ?_) fun h => ?_ | refine tV (fun h => ?_) fun h => ?_ | refine dqT ?_ | refine dqF ?_ | refine den_t rfl ?_ | refine den_f rfl ?_ | refine dqTn ?_ | refine dqFn ?_)
                exact den_again rfl rfl (hag (a ++ [⟨1, n⟩]) (by rw [List.length_append, ha]; rfl))
          · rw [wordOp_kind h1]
            simp only
            repeat' (first | refine dq1 ?_ | refine dqc ?_ | refine dqm ?_ | refine den_let1 (den_mk rfl rfl (by simp)) ?_ | refine den_let1 (dx_app1 (x := ⟨kindOf w, 0⟩) (fun _ => rfl) rfl rfl (by omega)) ?_ | exact den_ret rfl rfl | refine tR (fun h => ?_) fun h => ?_ | refine tB (fun h => ?_) fun h => ?_ | refine tC (fun h => ?_) fun h => ?_ | refine tN (fun h => ?_) fun h => ?_ | refine tF (fun h => ?_) fun h => ?_ | refine tG (fun h => ?_) fun h => ?_ | refine tP (fun h => ?_) fun h => ?_ | refine tQ (fun h => ?_) fun h => ?_ | refine tA (fun h => ?_) fun h => ?_ | refine tO (fun h => ?_) fun h => ?_ | refine tU (fun h => ?_) fun h => ?_ | refine tV (fun h => ?_) fun h => ?_ | refine dqT ?_ | refine dqF ?_ | refine den_t rfl ?_ | refine den_f rfl ?_ | refine dqTn ?_ | refine dqFn ?_)
            exact den_again rfl rfl (hag (a ++ [⟨kindOf w, 0⟩]) (by rw [List.length_append, ha]; rfl))
      · rintro a ha again
        rw [readGo_nil]
        repeat' (first | refine dq1 ?_ | refine dqc ?_ | refine dqm ?_ | refine dqk rfl (sp_lockCheck_at _) ?_ | refine dqK rfl (sp_lockCheck_at _) ?_ | exact den_ret rfl rfl | refine tR (fun h => ?_) fun h => ?_ | refine tB (fun h => ?_) fun h => ?_ | refine tC (fun h => ?_) fun h => ?_ | refine tN (fun h => ?_) fun h => ?_ | refine tF (fun h => ?_) fun h => ?_ | refine tG (fun h => ?_) fun h => ?_ | refine tP (fun h => ?_) fun h => ?_ | refine tQ (fun h => ?_) fun h => ?_ | refine tA (fun h => ?_) fun h => ?_ | refine tO (fun h => ?_) fun h => ?_ | refine tU (fun h => ?_) fun h => ?_ | refine tV (fun h => ?_) fun h => ?_ | refine dqT ?_ | refine dqF ?_ | refine den_t rfl ?_ | refine den_f rfl ?_ | refine dqTn ?_ | refine dqFn ?_)
    · intro i d hi hd
      match i, hi, hd with
      | 0, hi, _ => simp [cfsOf] at hi
      | 1, _, hd => simp only [Enc.e, eInt, List.cons_append, List.nil_append, List.getElem?_cons_zero, List.getElem?_cons_succ, Option.some.injEq] at hd; subst hd; rfl
      | i + 2, hi, hd => simp [cfsOf] at hi
end Go.Proofs.YtnklncinjahckaaGreatDoor
namespace Go.Proofs.YtnklncinjahckaaGreatDoor
open Go.RowKit
set_option linter.unusedVariables false
set_option linter.unusedSimpArgs false
noncomputable def sp_idxStr : Spec := spD (fun _ : List (List UInt8) × List UInt8 => True) fun x => idx x.1 x.2
theorem sp_idxStr_at (a : List (List UInt8)) (b : List UInt8) : sp_idxStr [.l 1 (a.map eStr), .s b] = some [I (idx a b)] := spD_at (f := fun x : List (List UInt8) × List UInt8 => idx x.1 x.2) (a, b) trivial
theorem m_idxStr : Meets Tryz.prog sp_idxStr 132 ⟨[.one, .one], [(false, [.scal])], true⟩ :=
  meets_libI rfl (en_of (fn := Tryz.f132) (by kernel_rfl) (by kernel_rfl) (by kernel_rfl)) fun ⟨a, b⟩ _ W F us hF h => by
    obtain ⟨v, us, rfl, h1, h⟩ := pks_one h
    obtain ⟨v2, us, rfl, h2, h⟩ := pks_one h
    obtain rfl := pks_nil h
    obtain ⟨A, n, c, rfl, k1⟩ := rep_rds she_str h1
    obtain ⟨rfl, k2⟩ := rep_str h2
    have hl : a.length ≤ 9223372036854775807 := by have h1 := k1.1; have h2 := k1.2.1; have h3 := k1.2.2.1; simp only at h1 h2 h3; omega
    have hb := idx_bd a b
    exact ⟨⟨by simp only; omega, by simp only at hb ⊢; omega⟩, (index_str a b A n c W F k1).mono fun e w' h => ⟨h.1, h.2 ▸ Below.refl _ _⟩⟩
end Go.Proofs.YtnklncinjahckaaGreatDoor
namespace Go.Proofs.YtnklncinjahckaaGreatDoor
open Go.RowKit
open Go.Lib (itoa)
set_option linter.unusedVariables false
set_option linter.unusedSimpArgs false
set_option maxRecDepth 100000
set_option maxHeartbeats 4000000
def numI (w : List UInt8) : Int × Bool := ((atoiOf w).1, !(atoiOf w).2.is && decide (itoa (atoiOf w).1 = w))
theorem numI_of (w : List UInt8) : wholeOf w = if (numI w).2 = true then some (numI w).1 else none := by
  unfold numI
  cases hi : (atoiOf w).2.is with
  | true => rw [whole_none hi]; rfl
  | false =>
    rw [whole_some hi]
    by_cases h : itoa (atoiOf w).1 = w
    · rw [if_pos h, if_pos (by simpa using h)]
    · rw [if_neg h, if_neg (by simpa using h)]
def numsGo (o : List Out) (i : List In) (x : List UInt8) (a : List Int) (ws : List (List UInt8)) : Option (List Out × List In) := match numsOf ws with
  | none => none
  | some n => lineEnd o i x (a ++ n)
theorem numsGo_cons (o : List Out) (i : List In) (x : List UInt8) (a : List Int) (w : List UInt8) (ws : List (List UInt8)) : numsGo o i x a (w :: ws) = if (numI w).2 = true then numsGo o i x (a ++ [(numI w).1]) ws else none := by
  unfold numsGo
  rw [numsOf, numI_of w]
  by_cases h : (numI w).2 = true
  · rw [if_pos h, if_pos h]
    simp only
    cases numsOf ws with
    | none => rfl
    | some l => simp
  · rw [if_neg h, if_neg h]
theorem numsGo_nil (o : List Out) (i : List In) (x : List UInt8) (a : List Int) : numsGo o i x a [] = lineEnd o i x a := by
  unfold numsGo; rw [numsOf]; simp
theorem lineStep_go (o : List Out) (i : List In) (x : List UInt8) : lineStep o i x = numsGo o i x [] ((cutAt 32 (Go.Lib.cut x [58]).1).drop 1) := by
  unfold lineStep numsGo
  cases numsOf ((cutAt 32 (Go.Lib.cut x [58]).1).drop 1) with
  | none => rfl
  | some n => simp
def finish (n : Int) (r : List (List UInt8)) (p : Option (List Out × List In)) : Tx × Int := match p with
  | none => (zTx, 1)
  | some p => linesGo n p.1 p.2 r
theorem linesGo_cons (n : Int) (o : List Out) (i : List In) (x : List UInt8) (r : List (List UInt8)) : linesGo n o i (x :: r) = finish n r (numsGo o i x [] ((cutAt 32 (Go.Lib.cut x [58]).1).drop 1)) := by
  rw [linesGo, lineStep_go]
  rfl
theorem finish_end (n : Int) (r : List (List UInt8)) (o : List Out) (i : List In) (x : List UInt8) (a : List Int) {hd0 q : List UInt8} {fd : Bool} {v0 : List UInt8} {vs : List (List UInt8)} {l : List Op} {e : Int} (hc : Go.Lib.cut x [58] = (hd0, q, fd)) (hv : cutAt 32 hd0 = v0 :: vs) (hr : readOf q = (l, e)) : finish n r (lineEnd o i x a) =
  if e ≠ 0 then (zTx, 1) else if Go.Lib.contains x [58] = false then (zTx, 1) else
  if v0 = tIn ∧ a.length = 2 ∧ o.length = 0 then linesGo n o (i ++ [⟨⟨a.getD 0 0, a.getD 1 0⟩, l⟩]) r else
  if v0 = tOut ∧ a.length = 1 then linesGo n (o ++ [⟨a.getD 0 0, l⟩]) i r else (zTx, 1) := by
  have e1 : lineEnd o i x a = if e ≠ 0 then none else if Go.Lib.contains x [58] = false then none else
    if v0 = tIn ∧ a.length = 2 ∧ o.length = 0 then some (o, i ++ [⟨⟨a.getD 0 0, a.getD 1 0⟩, l⟩]) else
    if v0 = tOut ∧ a.length = 1 then some (o ++ [⟨a.getD 0 0, l⟩], i) else none := by
    unfold lineEnd
    rw [hc]
    show (if (readOf q).2 ≠ 0 then none else if Go.Lib.contains x [58] = false then none else
      if (cutAt 32 hd0).headD [] = tIn ∧ a.length = 2 ∧ o.length = 0 then some (o, i ++ [⟨⟨a.getD 0 0, a.getD 1 0⟩, (readOf q).1⟩]) else
      if (cutAt 32 hd0).headD [] = tOut ∧ a.length = 1 then some (o ++ [⟨a.getD 0 0, (readOf q).1⟩], i) else none) = _
    rw [hr, hv]
    rfl
  rw [e1]
  by_cases h1 : e ≠ 0
  · rw [if_pos h1, if_pos h1]; rfl
  rw [if_neg h1, if_neg h1]
  by_cases h2 : Go.Lib.contains x [58] = false
  · rw [if_pos h2, if_pos h2]; rfl
  rw [if_neg h2, if_neg h2]
  by_cases h3 : v0 = tIn ∧ a.length = 2 ∧ o.length = 0
  · rw [if_pos h3, if_pos h3]; rfl
  rw [if_neg h3, if_neg h3]
  by_cases h4 : v0 = tOut ∧ a.length = 1
  · rw [if_pos h4, if_pos h4]; rfl
  rw [if_neg h4, if_neg h4]; rfl
theorem readTx_go (s : List UInt8) : readTx s = if 4000 < (s.length : Int) then (zTx, 2) else
  if Go.Lib.hasSuffix s [10] = false then (zTx, 1) else
  if Go.Lib.hasPrefix ((cutAt 10 (Go.Lib.trimSuffix s [10])).headD []) tTx = false then (zTx, 1) else
  if (numI (Go.Lib.trimPrefix ((cutAt 10 (Go.Lib.trimSuffix s [10])).headD []) tTx)).2 = true then linesGo (numI (Go.Lib.trimPrefix ((cutAt 10 (Go.Lib.trimSuffix s [10])).headD []) tTx)).1 [] [] ((cutAt 10 (Go.Lib.trimSuffix s [10])).drop 1) else (zTx, 1) := by
  unfold readTx
  rw [numI_of]
  by_cases h : (numI (Go.Lib.trimPrefix ((cutAt 10 (Go.Lib.trimSuffix s [10])).headD []) tTx)).2 = true
  · rw [if_pos h, if_pos h]
  · rw [if_neg h, if_neg h]
theorem sp_txCheckB_at (t : Tx) : sp_txCheck [I t.height, .l 3 (t.ins.map eIn), .l 2 (t.outs.map eOut)] = some [I (txCheck t)] := spD_at (f := fun t : Tx => txCheck t) t trivial
noncomputable def sp_txNumber : Spec := spD (fun s : List UInt8 => s.length ≤ 1000000000) fun s => numI s
theorem sp_txNumber_at (s : List UInt8) (h : s.length ≤ 1000000000) : sp_txNumber [.s s] = some [I (numI s).1, .b (numI s).2] := spD_at (p := fun s : List UInt8 => s.length ≤ 1000000000) (f := fun s : List UInt8 => numI s) s h
noncomputable def sp_txParse : Spec := spD (fun _ : List UInt8 => True) fun s => readTx s
theorem sp_txParse_at (s : List UInt8) : sp_txParse [.s s] = some (eTx (readTx s).1 ++ [I (readTx s).2]) := spD_at (f := fun s : List UInt8 => readTx s) s trivial
attribute [local irreducible] specOf spD ordP itoa opsCheck openOf joinC readGo atoiOf cutAt txCheck readOf
section
variable {α : Type} {f : α → List Dt} {sp : Nat → Spec} {N : Nat} {E : Env}
theorem dx_tail {sz : Nat} {a : Atom} {x : α} {l : List α} (ha : a.val E = some (.l sz ((x :: l).map f))) : denX sp E (.sub sz a (some (.c (.i .i64 1))) none) = some (.l sz (l.map f)) := by
  have hl : (x :: l).length = l.length + 1 := rfl
  rw [dx_sub (m := 1) (n := ((x :: l).length : Int)) ha rfl rfl (by omega) (by omega) (by omega)]
  simp
end
attribute [local irreducible] den denX denXs holdXs
def t_txNumber : T :=
  .lets [.call 42 [.v 0] 0, .call 42 [.v 0] 1] [] (.lets [.ise false (.v 2)] [] (.ite (.v 3) (.lets [.call 37 [.v 1] 0] [] (.lets [.bin .eql (.v 4) (.v 0)] [] (.ret [.v 1, .v 5])))
  (.ret [.v 1, .c (.b false)])))
def t_txParse_0 : T :=
  .ite (.v 35) (.ret [.c (.i .i64 0), .c (.nil 3), .c (.nil 2), .c (.i .i64 1)]) (.lets [.mk 1 [[.v 33]]] [] (.lets [.app 1 (.v 29) (.v 36)] [] (.lets [.bin .add (.v 30) (.c (.i .i64
  1))] [] (.again 1 [.v 28, .v 37, .v 38]))))
def t_txParse_1 : T :=
  .lets [.mk 3 [[.v 43, .v 44, .v 32]]] [] (.lets [.app 3 (.v 17) (.v 45)] [] (.lets [.bin .add (.v 19) (.c (.i .i64 1))] [] (.again 0 [.v 16, .v 46, .v 18, .v 47])))
def t_txParse_2 : T :=
  .lets [] [.inr 1 (.v 29) (.c (.i .i64 0))] (.lets [.idx (.v 29) (.c (.i .i64 0)) 0] [] (.lets [] [.inr 1 (.v 29) (.c (.i .i64 1))] (.lets [.idx (.v 29) (.c (.i .i64 1)) 0] []
  t_txParse_1)))
def t_txParse_3 : T :=
  .lets [.idx (.v 29) (.c (.i .i64 0)) 0] [] (.lets [.mk 2 [[.v 47, .v 32]]] [] (.lets [.app 2 (.v 16) (.v 48)] [] (.lets [.bin .add (.v 19) (.c (.i .i64 1))] [] (.again 0 [.v 49, .v
  17, .v 18, .v 50]))))
def t_txParse_4 : T :=
  .lets [.bin .eql (.v 45) (.c (.i .i64 1))] [] (.ite (.v 46) (.lets [] [.inr 1 (.v 29) (.c (.i .i64 0))] t_txParse_3) (.ret [.c (.i .i64 0), .c (.nil 3), .c (.nil 2), .c (.i .i64
  1)]))
def t_txParse_5 : T :=
  .lets [.bin .eql (.v 43) (.c (.s [111, 117, 116]))] [] (.ite (.v 44) (.lets [.len (.v 29)] [] t_txParse_4) (.ret [.c (.i .i64 0), .c (.nil 3), .c (.nil 2), .c (.i .i64 1)]))
def t_txParse_6 : T :=
  .lets [.bin .eql (.v 41) (.c (.i .i64 0))] [] (.ite (.v 42) t_txParse_2 (.lets [] [.inr 1 (.v 25) (.c (.i .i64 0))] (.lets [.idx (.v 25) (.c (.i .i64 0)) 0] [] t_txParse_5)))
def t_txParse_7 : T :=
  .lets [.idx (.v 29) (.c (.i .i64 0)) 0] [] (.lets [.mk 2 [[.v 45, .v 32]]] [] (.lets [.app 2 (.v 16) (.v 46)] [] (.lets [.bin .add (.v 19) (.c (.i .i64 1))] [] (.again 0 [.v 47, .v
  17, .v 18, .v 48]))))
def t_txParse_8 : T :=
  .lets [.bin .eql (.v 43) (.c (.i .i64 1))] [] (.ite (.v 44) (.lets [] [.inr 1 (.v 29) (.c (.i .i64 0))] t_txParse_7) (.ret [.c (.i .i64 0), .c (.nil 3), .c (.nil 2), .c (.i .i64
  1)]))
def t_txParse_9 : T :=
  .lets [.bin .eql (.v 41) (.c (.s [111, 117, 116]))] [] (.ite (.v 42) (.lets [.len (.v 29)] [] t_txParse_8) (.ret [.c (.i .i64 0), .c (.nil 3), .c (.nil 2), .c (.i .i64 1)]))
def t_txParse_10 : T :=
  .lets [.bin .eql (.v 39) (.c (.i .i64 2))] [] (.ite (.v 40) (.lets [.len (.v 16)] [] t_txParse_6) (.lets [] [.inr 1 (.v 25) (.c (.i .i64 0))] (.lets [.idx (.v 25) (.c (.i .i64 0))
  0] [] t_txParse_9)))
def t_txParse_11 : T :=
  .lets [.idx (.v 29) (.c (.i .i64 0)) 0] [] (.lets [.mk 2 [[.v 43, .v 32]]] [] (.lets [.app 2 (.v 16) (.v 44)] [] (.lets [.bin .add (.v 19) (.c (.i .i64 1))] [] (.again 0 [.v 45, .v
  17, .v 18, .v 46]))))
def t_txParse_12 : T :=
  .lets [.bin .eql (.v 41) (.c (.i .i64 1))] [] (.ite (.v 42) (.lets [] [.inr 1 (.v 29) (.c (.i .i64 0))] t_txParse_11) (.ret [.c (.i .i64 0), .c (.nil 3), .c (.nil 2), .c (.i .i64
  1)]))
def t_txParse_13 : T :=
  .lets [.bin .eql (.v 39) (.c (.s [111, 117, 116]))] [] (.ite (.v 40) (.lets [.len (.v 29)] [] t_txParse_12) (.ret [.c (.i .i64 0), .c (.nil 3), .c (.nil 2), .c (.i .i64 1)]))
def t_txParse_14 : T :=
  .lets [.bin .eql (.v 37) (.c (.s [105, 110]))] [] (.ite (.v 38) (.lets [.len (.v 29)] [] t_txParse_10) (.lets [] [.inr 1 (.v 25) (.c (.i .i64 0))] (.lets [.idx (.v 25) (.c (.i .i64
  0)) 0] [] t_txParse_13)))
def t_txParse_15 : T :=
  .ite (.v 36) (.ret [.c (.i .i64 0), .c (.nil 3), .c (.nil 2), .c (.i .i64 1)]) (.lets [] [.inr 1 (.v 25) (.c (.i .i64 0))] (.lets [.idx (.v 25) (.c (.i .i64 0)) 0] [] t_txParse_14))
def t_txParse_16 : T :=
  .ite (.v 34) (.ret [.c (.i .i64 0), .c (.nil 3), .c (.nil 2), .c (.i .i64 1)]) (.lets [.call 49 [.v 21, .c (.s [58])] 0] [] (.lets [.not (.v 35)] [] t_txParse_15))
def t_txParse_17 : T :=
  .ite (.v 31) (.lets [] [.inr 1 (.v 26) (.v 30)] (.lets [.idx (.v 26) (.v 30) 0] [] (.lets [.call 60 [.v 32] 0, .call 60 [.v 32] 1] [] (.lets [.not (.v 34)] [] t_txParse_0)))) (.lets
  [.call 55 [.v 23] 0, .call 55 [.v 23] 1] [] (.lets [.bin .neq (.v 33) (.c (.i .i64 0))] [] t_txParse_16))
def t_txParse_18 : T :=
  .lets [.sub 1 (.v 25) (some (.c (.i .i64 1))) none] [] (.lets [.len (.v 26)] [] (.loop [.c (.b false), .c (.nil 1), .c (.i .i64 0)] (.lets [.bin .lss (.v 30) (.v 27)] []
  t_txParse_17)))
def t_txParse_19 : T :=
  .lets [.call 48 [.v 21, .c (.s [58])] 0, .call 48 [.v 21, .c (.s [58])] 1, .call 48 [.v 21, .c (.s [58])] 2] [] (.lets [.call 41 [.v 22, .c (.s [32])] 0] [] t_txParse_18)
def t_txParse_20 : T :=
  .lets [.bin .neq (.v 21) (.c (.i .i64 0))] [] (.ite (.v 22) (.ret [.c (.i .i64 0), .c (.nil 3), .c (.nil 2), .v 21]) (.ret [.v 9, .v 17, .v 16, .c (.i .i64 0)]))
def t_txParse_21 : T :=
  .lets [.bin .lss (.v 19) (.v 15)] [] (.ite (.v 20) (.lets [] [.inr 1 (.v 14) (.v 19)] (.lets [.idx (.v 14) (.v 19) 0] [] t_txParse_19)) (.lets [.call 17 [.v 9, .v 17, .v 16] 0] []
  t_txParse_20))
def t_txParse_22 : T :=
  .ite (.v 13) (.ret [.c (.i .i64 0), .c (.nil 3), .c (.nil 2), .c (.i .i64 1)]) (.lets [.sub 1 (.v 5) (some (.c (.i .i64 1))) none] [] (.lets [.len (.v 14)] [] (.loop [.c (.nil 2),
  .c (.nil 3), .c (.i .i64 0), .c (.i .i64 0)] t_txParse_21)))
def t_txParse_23 : T :=
  .ite (.v 11) (.ret [.c (.i .i64 0), .c (.nil 3), .c (.nil 2), .c (.i .i64 1)]) (.lets [.not (.v 8)] [] (.ite (.v 12) (.ret [.c (.i .i64 0), .c (.nil 3), .c (.nil 2), .c (.i .i64
  1)]) (.lets [.not (.v 10)] [] t_txParse_22)))
def t_txParse_24 : T :=
  .lets [.call 51 [.v 6, .c (.s [116, 120, 32])] 0, .call 51 [.v 6, .c (.s [116, 120, 32])] 1] [] (.lets [.call 60 [.v 7] 0, .call 60 [.v 7] 1] [] (.lets [.not (.v 4)] []
  t_txParse_23))
def t_txParse_25 : T :=
  .lets [.call 52 [.v 0, .c (.s [10])] 0, .call 52 [.v 0, .c (.s [10])] 1] [] (.lets [.call 41 [.v 3, .c (.s [10])] 0] [] (.lets [] [.inr 1 (.v 5) (.c (.i .i64 0))] (.lets [.idx (.v
  5) (.c (.i .i64 0)) 0] [] t_txParse_24)))
def t_txParse : T :=
  .lets [.slen (.v 0)] [] (.lets [.bin .gtr (.v 1) (.c (.i .i64 4000))] [] (.ite (.v 2) (.ret [.c (.i .i64 0), .c (.nil 3), .c (.nil 2), .c (.i .i64 2)]) t_txParse_25))
attribute [local irreducible] sp_atoi sp_itoa
theorem m_txNumber : Meets Tryz.prog sp_txNumber 83 ⟨[.one], [(false, [.scal]), (false, [.scal])], true⟩ := by
  refine meets_fast (sp := (spsOf [(37, sp_itoa), (42, sp_atoi)])) (sigs := sigsA) (cut := []) (hints := []) (fn := Tryz.f83) (t := t_txNumber) (by kernel_rfl) (by kernel_rfl) (by kernel_rfl) ?_ ?_
  · exact (sig_of (L := [(37, sp_itoa), (42, sp_atoi)]) ⟨sig_at rfl m_itoa, sig_at rfl m_atoi, trivial⟩)
  · rintro ds rs - h
    obtain ⟨w, hw, rfl, rfl⟩ := spD_some h
    clear h
    refine ⟨⟨1, ?_⟩, scalOk_2 rfl rfl⟩
    show den _ _ t_txNumber [.s w] [] = ret (numI w)
    have a1 := sp_atoi_at w hw
    unfold t_txNumber numI
    cases hi : (atoiOf w).2.is with
    | true =>
      rw [hi] at a1
      repeat' (first | refine dq1 ?_ | refine dqc ?_ | refine dqm ?_ | refine dqk rfl (a1) ?_ | refine dqK rfl (a1) ?_ | refine den_let1 (dx_ise rfl) ?_ | exact den_ret rfl rfl | refine tR (fun h => ?_) fun h => ?_ | refine tB (fun h => ?_) fun h => ?_ | refine tC (fun h => ?_) fun h => ?_ | refine tN (fun h => ?_) fun h => ?_ | refine tF (fun h => ?_) fun h => ?_ | refine tG (fun h => ?_) fun h => ?_ | refine tP (fun h => ?_) fun h => ?_ | refine tQ (fun h => ?_) fun h => ?_ | refine tA (fun h => ?_) fun h => ?_ | refine tO (fun h => ?_) fun h => ?_ | refine tU (fun h => ?_) fun h => ?_ | refine tV (fun h => ?_) fun h => ?_ | refine dqT ?_ | refine dqF ?_ | refine den_t rfl ?_ | refine den_f rfl ?_ | refine dqTn ?_ | refine dqFn ?_)
    | false =>
      rw [hi] at a1
      repeat' (first | refine dq1 ?_ | refine dqc ?_ | refine dqm ?_ | refine dqk rfl (a1) ?_ | refine dqK rfl (a1) ?_ | refine dqk rfl (sp_itoa_at _) ?_ | refine dqK rfl (sp_itoa_at _) ?_ | refine den_let1 (dx_ise rfl) ?_ | exact den_ret rfl rfl | refine tR (fun h => ?_) fun h => ?_ | refine tB (fun h => ?_) fun h => ?_ | refine tC (fun h => ?_) fun h => ?_ | refine tN (fun h => ?_) fun h => ?_ | refine tF (fun h => ?_) fun h => ?_ | refine tG (fun h => ?_) fun h => ?_ | refine tP (fun h => ?_) fun h => ?_ | refine tQ (fun h => ?_) fun h => ?_ | refine tA (fun h => ?_) fun h => ?_ | refine tO (fun h => ?_) fun h => ?_ | refine tU (fun h => ?_) fun h => ?_ | refine tV (fun h => ?_) fun h => ?_ | refine dqT ?_ | refine dqF ?_ | refine den_t rfl ?_ | refine den_f rfl ?_ | refine dqTn ?_ | refine dqFn ?_)
attribute [local irreducible] numI numsGo linesGo finish lineEnd
attribute [local irreducible] sp_cutPrefix sp_cutSuffix sp_lockParse sp_strContains sp_strCut sp_strSplit sp_txCheck
theorem m_txParse : Meets Tryz.prog sp_txParse 29 ⟨[.one], [(true, [.scal, .pure, .pure]), (false, [.scal])], false⟩ := by
  refine meets_fin (sp := (spsOf [(17, sp_txCheck), (41, sp_strSplit), (48, sp_strCut), (49, sp_strContains), (51, sp_cutPrefix), (52, sp_cutSuffix), (55, sp_lockParse), (60, sp_txNumber)])) (sigs := sigsA) (cut := []) (hints := [⟨11, [.n 11 2 661 84 2, .c 11 2 661, .n 11 1 660 90 3, .c 11 1 660, .t 3, .t 54]⟩]) (fns := [fnOf 84 Tryz.f84 [⟨5, [.t 4, .r 9 3 1, .t 27]⟩] []]) (dep := 3) (pool := 600) (fn := Tryz.f29) (t := t_txParse) (by kernel_rfl) (by kernel_rfl) (by kernel_rfl) ?_ ?_ ?_
  · exact (fnOk_cons (fn := Tryz.f84) (by kernel_rfl) (by kernel_rfl) (by kernel_rfl) (by kernel_rfl) (by kernel_rfl) fnOk_nil)
  · exact (sig_of (L := [(17, sp_txCheck), (41, sp_strSplit), (48, sp_strCut), (49, sp_strContains), (51, sp_cutPrefix), (52, sp_cutSuffix), (55, sp_lockParse), (60, sp_txNumber)]) ⟨sig_at rfl m_txCheck, sig_at rfl m_strSplit, sig_at rfl m_strCut, sig_at rfl m_strContains, sig_at rfl m_cutPrefix, sig_at rfl m_cutSuffix, sig_at rfl m_lockParse, sig_at rfl m_txNumber, trivial⟩)
  · rintro ds rs hok h
    obtain ⟨s, -, rfl, rfl⟩ := spD_some h
    clear h
    refine ⟨⟨s.length + 5000, ?_⟩, ?_⟩
    · show den _ _ t_txParse [.s s] [] = ret (readTx s)
      rw [readTx_go]
      unfold t_txParse
      repeat' (first | refine dq1 ?_ | refine dqc ?_ | refine dqm ?_ | exact den_ret rfl rfl | refine tR (fun h => ?_) fun h => ?_ | refine tB (fun h => ?_) fun h => ?_ | refine tC (fun h => ?_) fun h => ?_ | refine tN (fun h => ?_) fun h => ?_ | refine tF (fun h => ?_) fun h => ?_ | refine tG (fun h => ?_) fun h => ?_ | refine tP (fun h => ?_) fun h => ?_ | refine tQ (fun h => ?_) fun h => ?_ | refine tA (fun h => ?_) fun h => ?_ | refine tO (fun h => ?_) fun h => ?_ | refine tU (fun h => ?_) fun h => ?_ | refine tV (fun h => ?_) fun h => ?_ | refine dqT ?_ | refine dqF ?_ | refine den_t rfl ?_ | refine den_f rfl ?_ | refine dqTn ?_ | refine dqFn ?_)
      have hs4 : s.length ≤ 4000 := by omega
      have hrs : (Go.Lib.trimSuffix s [10]).length ≤ s.length := by
        unfold Go.Lib.trimSuffix
        split
        · simp
        · exact Nat.le_refl _
      have hr4 : (Go.Lib.trimSuffix s [10]).length ≤ 4000 := by omega
      have hcl := cutAt_len 10 (Go.Lib.trimSuffix s [10])
      have a1 := sp_cutSuffix_at s [10]
      have a2 := sp_strSplit_at (Go.Lib.trimSuffix s [10]) 10 (by omega)
      have hne := cutAt_ne 10 (Go.Lib.trimSuffix s [10])
      generalize cutAt 10 (Go.Lib.trimSuffix s [10]) = l at *
      cases l with
      | nil => exact absurd rfl hne
      | cons w0 ws =>
      simp only [List.headD_cons, List.drop_succ_cons, List.drop_zero]
      have hw0 : w0.length ≤ 4000 := by have := hcl.2 w0 (by simp); omega
      have hx : (w0 :: ws)[0]? = some w0 := rfl
      have hln : (w0 :: ws).length = ws.length + 1 := rfl
      have a3 := sp_cutPrefix_at w0 tTx
      have ht0 : (Go.Lib.trimPrefix w0 tTx).length ≤ 4000 := by
        unfold Go.Lib.trimPrefix
        split
        · simp; omega
        · omega
      have a4 := sp_txNumber_at (Go.Lib.trimPrefix w0 tTx) (by omega)
      generalize numI (Go.Lib.trimPrefix w0 tTx) = nb at *
      obtain ⟨n, ok⟩ := nb
      generalize Go.Lib.trimPrefix w0 tTx = h0 at *
      generalize Go.Lib.hasPrefix w0 tTx = is at *
      generalize Go.Lib.hasSuffix s [10] = sfx at *
      generalize Go.Lib.trimSuffix s [10] = rest at *
      simp only at *
      repeat' (first | refine dq1 ?_ | refine dqc ?_ | refine dqm ?_ | refine dqk rfl (a1) ?_ | refine dqK rfl (a1) ?_ | refine dqk rfl (a2) ?_ | refine dqK rfl (a2) ?_ | refine dqk rfl (a3) ?_ | refine dqK rfl (a3) ?_ | refine dqk rfl (a4) ?_ | refine dqK rfl (a4) ?_ | refine den_let1 (dx_tail rfl) ?_ | exact den_ret rfl rfl | refine tR (fun h => ?_) fun h => ?_ | refine tB (fun h => ?_) fun h => ?_ | refine tC (fun h => ?_) fun h => ?_ | refine tN (fun h => ?_) fun h => ?_ | refine tF (fun h => ?_) fun h => ?_ | refine tG (fun h => ?_) fun h => ?_ | refine tP (fun h => ?_) fun h => ?_ | refine tQ (fun h => ?_) fun h => ?_ | refine tA (fun h => ?_) fun h => ?_ | refine tO (fun h => ?_) fun h => ?_ | refine tU (fun h => ?_) fun h => ?_ | refine tV (fun h => ?_) fun h => ?_ | refine dqT ?_ | refine dqF ?_ | refine den_t rfl ?_ | refine den_f rfl ?_ | refine dqTn ?_ | refine dqFn ?_)
      (refine den_range (fun (a : List Out × List In) k => [.l 2 (a.1.map eOut), .l 3 (a.2.map eIn), I 0, I k]) (fun (a : List Out × List In) _ (r : List (List UInt8)) => linesGo n a.1 a.2 r) (fun a k => a.1.length + a.2.length = k) ([], []) ws ?_ ?_ ?_ ?_ ?_; rfl; exact rfl; omega)
      · rintro ⟨o, i⟩ k x r hx hd hk ha again hag
        simp only at ha hag ⊢
        have hxl : x.length ≤ 4000 := by have := hcl.2 x (List.mem_cons_of_mem _ (List.mem_of_getElem? hx)); omega
        rw [linesGo_cons]
        have b1 := sp_strCut_at x [58] (by omega)
        have b2 := sp_lockParse_at (Go.Lib.cut x [58]).2.1
        have b3 := sp_strContains_at x [58] (by omega)
        have hc1 : (Go.Lib.cut x [58]).1.length ≤ 4000 := by
          unfold Go.Lib.cut
          split
          · simp; omega
          · simp only; omega
        have b4 := sp_strSplit_at (Go.Lib.cut x [58]).1 32 (by omega)
        have hcw := cutAt_len 32 (Go.Lib.cut x [58]).1
        have hne2 := cutAt_ne 32 (Go.Lib.cut x [58]).1
        generalize hc : Go.Lib.cut x [58] = c at *
        obtain ⟨hd0, q, fd⟩ := c
        simp only at *
        generalize hv : cutAt 32 hd0 = v at *
        cases v with
        | nil => exact absurd rfl hne2
        | cons v0 vs =>
        generalize hr : readOf q = rd at *
        obtain ⟨l, e⟩ := rd
        have fe := fun a => finish_end n r o i x a hc hv hr
        simp only [List.drop_succ_cons, List.drop_zero] at b2 ⊢
        have hv0 : (v0 :: vs)[0]? = some v0 := rfl
        have hvn : (v0 :: vs).length = vs.length + 1 := rfl
        repeat' (first | refine dq1 ?_ | refine dqc ?_ | refine dqm ?_ | refine dqk rfl (b1) ?_ | refine dqK rfl (b1) ?_ | refine dqk rfl (b4) ?_ | refine dqK rfl (b4) ?_ | refine den_let1 (dx_tail rfl) ?_ | exact den_ret rfl rfl | refine tR (fun h => ?_) fun h => ?_ | refine tB (fun h => ?_) fun h => ?_ | refine tC (fun h => ?_) fun h => ?_ | refine tN (fun h => ?_) fun h => ?_ | refine tF (fun h => ?_) fun h => ?_ | refine tG (fun h => ?_) fun h => ?_ | refine tP (fun h => ?_) fun h => ?_ | refine tQ (fun h => ?_) fun h => ?_ | refine tA (fun h => ?_) fun h => ?_ | refine tO (fun h => ?_) fun h => ?_ | refine tU (fun h => ?_) fun h => ?_ | refine tV (fun h => ?_) fun h => ?_ | refine dqT ?_ | refine dqF ?_ | refine den_t rfl ?_ | refine den_f rfl ?_ | refine dqTn ?_ | refine dqFn ?_)
        (refine den_range (fun (a : List Int) k => [.b false, .l 1 (a.map eInt), I k]) (fun (a : List Int) _ (r' : List (List UInt8)) => finish n r (numsGo o i x a r')) (fun a k => a.length = k) [] vs ?_ ?_ ?_ ?_ ?_; rfl; exact rfl; omega)
        · rintro a k' w r' hw hd' hk' ha' again' hag'
          try simp only at ha' hag' ⊢
          have hwl : w.length ≤ 4000 := by have := hcw.2 w (List.mem_cons_of_mem _ (List.mem_of_getElem? hw)); omega
          rw [numsGo_cons]
          have b6 := sp_txNumber_at w (by omega)
          generalize numI w = nb at *
          obtain ⟨m, g⟩ := nb
          simp only at b6 ⊢
          cases g with
          | true =>
            rw [if_pos rfl]
            repeat' (first | refine dq1 ?_ | refine dqc ?_ | refine dqm ?_ | refine dqk rfl (b6) ?_ | refine dqK rfl (b6) ?_ | refine den_let1 (den_mk rfl rfl (by simp)) ?_ | refine den_let1 (dx_app1 (x := m) (fun _ => rfl) rfl rfl (by omega)) ?_ | exact den_ret rfl rfl | refine tR (fun h => ?_) fun h => ?_ | refine tB (fun h => ?_) fun h => ?_ | refine tC (fun h => ?_) fun h => ?_ | refine tN (fun h => ?_) fun h => ?_ | refine tF (fun h => ?_) fun h => ?_ | refine tG (fun h => ?_) fun h => ?_ | refine tP (fun h => ?_) fun h => ?_ | refine tQ (fun h => ?_) fun h => ?_ | refine tA (fun h => ?_) fun h => ?_ | refine tO (fun h => ?_) fun h => ?_ | refine tU (fun h => ?_) fun h => ?_ | refine tV (fun h => ?_) fun h => ?_ | refine dqT ?_ | refine dqF ?_ | refine den_t rfl ?_ | refine den_f rfl ?_ | refine dqTn ?_ | refine dqFn ?_)
            exact den_again rfl rfl (hag' (a ++ [m]) (by rw [List.length_append, ha']; rfl))
          | false =>
            rw [if_neg (by simp)]
            have e1 : finish n r none = (zTx, 1) := by with_unfolding_all rfl
            rw [e1]
            repeat' (first | refine dq1 ?_ | refine dqc ?_ | refine dqm ?_ | refine dqk rfl (b6) ?_ | refine dqK rfl (b6) ?_ | exact den_ret rfl rfl | refine tR (fun h => ?_) fun h => ?_ | refine tB (fun h => ?_) fun h => ?_ | refine tC (fun h => ?_) fun h => ?_ | refine tN (fun h => ?_) fun h => ?_ | refine tF (fun h => ?_) fun h => ?_ | refine tG (fun h => ?_) fun h => ?_ | refine tP (fun h => ?_) fun h => ?_ | refine tQ (fun h => ?_) fun h => ?_ | refine tA (fun h => ?_) fun h => ?_ | refine tO (fun h => ?_) fun h => ?_ | refine tU (fun h => ?_) fun h => ?_ | refine tV (fun h => ?_) fun h => ?_ | refine dqT ?_ | refine dqF ?_ | refine den_t rfl ?_ | refine den_f rfl ?_ | refine dqTn ?_ | refine dqFn ?_)
        · rintro a ha' again'
          try simp only at ha' ⊢
          rw [numsGo_nil, fe a]
          repeat' (first | refine dq1 ?_ | refine dqc ?_ | refine dqm ?_ | refine dqk rfl (b2) ?_ | refine dqK rfl (b2) ?_ | refine dqk rfl (b3) ?_ | refine dqK rfl (b3) ?_ | exact den_ret rfl rfl | refine tR (fun h => ?_) fun h => ?_ | refine tB (fun h => ?_) fun h => ?_ | refine tC (fun h => ?_) fun h => ?_ | refine tN (fun h => ?_) fun h => ?_ | refine tF (fun h => ?_) fun h => ?_ | refine tG (fun h => ?_) fun h => ?_ | refine tP (fun h => ?_) fun h => ?_ | refine tQ (fun h => ?_) fun h => ?_ | refine tA (fun h => ?_) fun h => ?_ | refine tO (fun h => ?_) fun h => ?_ | refine tU (fun h => ?_) fun h => ?_ | refine tV (fun h => ?_) fun h => ?_ | refine dqT ?_ | refine dqF ?_ | refine den_t rfl ?_ | refine den_f rfl ?_ | refine dqTn ?_ | refine dqFn ?_)
          by_cases hI : v0 = tIn ∧ a.length = 2 ∧ o.length = 0
          · obtain ⟨rfl, h2, h3⟩ := hI
            rw [if_pos ⟨rfl, h2, h3⟩]
            match a, h2, o, h3 with
            | [a0, a1], _, [], _ =>
            have x0 : [a0, a1][0]? = some a0 := rfl
            have x1 : [a0, a1][1]? = some a1 := rfl
            have xl : [a0, a1].length = 2 := rfl
            have xo : ([] : List Out).length = 0 := rfl
            repeat' (first | refine dq1 ?_ | refine dqc ?_ | refine dqm ?_ | refine den_let1 (den_mk rfl rfl (by simp)) ?_ | refine den_let1 (dx_app1 (x := ⟨⟨a0, a1⟩, l⟩) (fun _ => rfl) rfl rfl (by omega)) ?_ | exact den_ret rfl rfl | refine tR (fun h => ?_) fun h => ?_ | refine tB (fun h => ?_) fun h => ?_ | refine tC (fun h => ?_) fun h => ?_ | refine tN (fun h => ?_) fun h => ?_ | refine tF (fun h => ?_) fun h => ?_ | refine tG (fun h => ?_) fun h => ?_ | refine tP (fun h => ?_) fun h => ?_ | refine tQ (fun h => ?_) fun h => ?_ | refine tA (fun h => ?_) fun h => ?_ | refine tO (fun h => ?_) fun h => ?_ | refine tU (fun h => ?_) fun h => ?_ | refine tV (fun h => ?_) fun h => ?_ | refine dqT ?_ | refine dqF ?_ | refine den_t rfl ?_ | refine den_f rfl ?_ | refine dqTn ?_ | refine dqFn ?_)
            exact den_again rfl rfl (hag ([], i ++ [⟨⟨a0, a1⟩, l⟩]) (by simp; simp at ha; omega))
          · rw [if_neg hI]
            by_cases hO : v0 = tOut ∧ a.length = 1
            · obtain ⟨rfl, h2⟩ := hO
              rw [if_pos ⟨rfl, h2⟩]
              match a, h2 with
              | [a0], _ =>
              have x0 : [a0][0]? = some a0 := rfl
              have xl : [a0].length = 1 := rfl
              repeat' (first | refine dq1 ?_ | refine dqc ?_ | refine dqm ?_ | refine den_let1 (den_mk rfl rfl (by simp)) ?_ | refine den_let1 (dx_app1 (x := ⟨a0, l⟩) (fun _ => rfl) rfl rfl (by omega)) ?_ | exact den_ret rfl rfl | refine tR (fun h => ?_) fun h => ?_ | refine tB (fun h => ?_) fun h => ?_ | refine tC (fun h => ?_) fun h => ?_ | refine tN (fun h => ?_) fun h => ?_ | refine tF (fun h => ?_) fun h => ?_ | refine tG (fun h => ?_) fun h => ?_ | refine tP (fun h => ?_) fun h => ?_ | refine tQ (fun h => ?_) fun h => ?_ | refine tA (fun h => ?_) fun h => ?_ | refine tO (fun h => ?_) fun h => ?_ | refine tU (fun h => ?_) fun h => ?_ | refine tV (fun h => ?_) fun h => ?_ | refine dqT ?_ | refine dqF ?_ | refine den_t rfl ?_ | refine den_f rfl ?_ | refine dqTn ?_ | refine dqFn ?_)
              exact den_again rfl rfl (hag (o ++ [⟨a0, l⟩], i) (by simp; omega))
            · rw [if_neg hO]
              by_cases c1 : v0 = tIn
              · subst c1
                by_cases c2 : a.length = 2
                · have c3 : ¬ o.length = 0 := fun h => hI ⟨rfl, c2, h⟩
                  repeat' (first | refine dq1 ?_ | refine dqc ?_ | refine dqm ?_ | exact den_ret rfl rfl | refine tR (fun h => ?_) fun h => ?_ | refine tB (fun h => ?_) fun h => ?_ | refine tC (fun h => ?_) fun h => ?_ | refine tN (fun h => ?_) fun h => ?_ | refine tF (fun h => ?_) fun h => ?_ | refine tG (fun h => ?_) fun h => ?_ | refine tP (fun h => ?_) fun h => ?_ | refine tQ (fun h => ?_) fun h => ?_ | refine tA (fun h => ?_) fun h => ?_ | refine tO (fun h => ?_) fun h => ?_ | refine tU (fun h => ?_) fun h => ?_ | refine tV (fun h => ?_) fun h => ?_ | refine dqT ?_ | refine dqF ?_ | refine den_t rfl ?_ | refine den_f rfl ?_ | refine dqTn ?_ | refine dqFn ?_)
                · repeat' (first | refine dq1 ?_ | refine dqc ?_ | refine dqm ?_ | exact den_ret rfl rfl | refine tR (fun h => ?_) fun h => ?_ | refine tB (fun h => ?_) fun h => ?_ | refine tC (fun h => ?_) fun h => ?_ | refine tN (fun h => ?_) fun h => ?_ | refine tF (fun h => ?_) fun h => ?_ | refine tG (fun h => ?_) fun h => ?_ | refine tP (fun h => ?_) fun h => ?_ | refine tQ (fun h => ?_) fun h => ?_ | refine tA (fun h => ?_) fun h => ?_ | refine tO (fun h => ?_) fun h => ?_ | refine tU (fun h => ?_) fun h => ?_ | refine tV (fun h => ?_) fun h => ?_ | refine dqT ?_ | refine dqF ?_ | refine den_t rfl ?_ | refine den_f rfl ?_ | refine dqTn ?_ | refine dqFn ?_)
              · by_cases c4 : v0 = tOut
                · subst c4
                  have c5 : ¬ a.length = 1 := fun h => hO ⟨rfl, h⟩
                  repeat' (first | refine dq1 ?_ | refine dqc ?_ | refine dqm ?_ | exact den_ret rfl rfl | refine tR (fun h => ?_) fun h => ?_ | refine tB (fun h => ?_) fun h => ?_ | refine tC (fun h => ?_) fun h => ?_ | refine tN (fun h => ?_) fun h => ?_ | refine tF (fun h => ?_) fun h => ?_ | refine tG (fun h => ?_) fun h => ?_ | refine tP (fun h => ?_) fun h => ?_ | refine tQ (fun h => ?_) fun h => ?_ | refine tA (fun h => ?_) fun h => ?_ | refine tO (fun h => ?_) fun h => ?_ | refine tU (fun h => ?_) fun h => ?_ | refine tV (fun h => ?_) fun h => ?_ | refine dqT ?_ | refine dqF ?_ | refine den_t rfl ?_ | refine den_f rfl ?_ | refine dqTn ?_ | refine dqFn ?_)
                · repeat' (first | refine dq1 ?_ | refine dqc ?_ | refine dqm ?_ | exact den_ret rfl rfl | refine tR (fun h => ?_) fun h => ?_ | refine tB (fun h => ?_) fun h => ?_ | refine tC (fun h => ?_) fun h => ?_ | refine tN (fun h => ?_) fun h => ?_ | refine tF (fun h => ?_) fun h => ?_ | refine tG (fun h => ?_) fun h => ?_ | refine tP (fun h => ?_) fun h => ?_ | refine tQ (fun h => ?_) fun h => ?_ | refine tA (fun h => ?_) fun h => ?_ | refine tO (fun h => ?_) fun h => ?_ | refine tU (fun h => ?_) fun h => ?_ | refine tV (fun h => ?_) fun h => ?_ | refine dqT ?_ | refine dqF ?_ | refine den_t rfl ?_ | refine den_f rfl ?_ | refine dqTn ?_ | refine dqFn ?_)
      · rintro ⟨o, i⟩ ha again
        simp only at ha ⊢
        have e0 : linesGo n o i [] = if txCheck ⟨n, i, o⟩ ≠ 0 then (zTx, txCheck ⟨n, i, o⟩) else (⟨n, i, o⟩, 0) := by with_unfolding_all rfl
        rw [e0]
        have b5 := sp_txCheckB_at ⟨n, i, o⟩
        simp only at b5
        repeat' (first | refine dq1 ?_ | refine dqc ?_ | refine dqm ?_ | refine dqk rfl (b5) ?_ | refine dqK rfl (b5) ?_ | exact den_ret rfl rfl | refine tR (fun h => ?_) fun h => ?_ | refine tB (fun h => ?_) fun h => ?_ | refine tC (fun h => ?_) fun h => ?_ | refine tN (fun h => ?_) fun h => ?_ | refine tF (fun h => ?_) fun h => ?_ | refine tG (fun h => ?_) fun h => ?_ | refine tP (fun h => ?_) fun h => ?_ | refine tQ (fun h => ?_) fun h => ?_ | refine tA (fun h => ?_) fun h => ?_ | refine tO (fun h => ?_) fun h => ?_ | refine tU (fun h => ?_) fun h => ?_ | refine tV (fun h => ?_) fun h => ?_ | refine dqT ?_ | refine dqF ?_ | refine den_t rfl ?_ | refine den_f rfl ?_ | refine dqTn ?_ | refine dqFn ?_)
    · intro i d hi hd
      match i, hi, hd with
      | 0, _, hd =>
        obtain rfl : I (readTx s).1.height = d := Option.some.inj hd
        rfl
      | 1, hi, _ => simp [cfsOf] at hi
      | 2, hi, _ => simp [cfsOf] at hi
      | 3, _, hd =>
        obtain rfl : I (readTx s).2 = d := Option.some.inj hd
        rfl
      | i + 4, hi, hd => simp [cfsOf] at hi
end Go.Proofs.YtnklncinjahckaaGreatDoor
namespace Go.Proofs.YtnklncinjahckaaGreatDoor
open Go.RowKit
set_option linter.unusedVariables false
set_option linter.unusedSimpArgs false
set_option maxRecDepth 100000
set_option maxHeartbeats 4000000
attribute [local irreducible] specOf spD ordP
end Go.Proofs.YtnklncinjahckaaGreatDoor
namespace Go.Proofs.YtnklncinjahckaaGreatDoor
open Go.RowKit
set_option linter.unusedVariables false
set_option linter.unusedSimpArgs false
set_option maxRecDepth 100000
set_option maxHeartbeats 4000000
theorem sp_eqOps_at (l m : List Op) : sp_eqOps [.l 2 (l.map eOp), .l 2 (m.map eOp)] = some [.b (decide (l = m))] := spD_at (f := fun x : List Op × List Op => decide (x.1 = x.2)) (l, m) trivial
theorem m_eqOps : Meets Tryz.prog sp_eqOps 76 ⟨[.one, .one], [(false, [.scal])], true⟩ :=
  meets_scal2 (e := fun x : { x : List Op × List Op // True } => Enc.e x.1) (d := fun x => .b (decide (x.1.1 = x.1.2))) rfl (en_of (fn := Tryz.f76) (by kernel_rfl) (by kernel_rfl) (by kernel_rfl)) (fun _ => rfl) fun x W F us hF h => by
    obtain ⟨v, us, rfl, h1, h⟩ := pks_one h
    obtain ⟨v2, us, rfl, h2, h⟩ := pks_one h
    obtain rfl := pks_nil h
    obtain ⟨A, n, c, rfl, k1⟩ := rep_rds she_op h1
    obtain ⟨A2, n2, c2, rfl, k2⟩ := rep_rds she_op h2
    refine (equal_op x.1.1 x.1.2 A A2 n c n2 c2 W F F k1 k2).mono ?_
    rintro r W' ⟨rfl, m, rfl⟩
    exact ⟨_, rfl, below_drewN (Below.refl _ _) m, .b _⟩
attribute [local irreducible] specOf spD ordP
theorem ok_l {α : Type} {sz : Nat} {l : List α} {f : α → List Dt} (h : Dt.ok (.l sz (l.map f))) : l.length ≤ 9223372036854775807 := by
  cases h with
  | l _ _ h1 _ _ => simpa using h1
theorem out_eq (x y : Out) : (decide (x.coin = y.coin) && decide (x.lock = y.lock)) = decide (x = y) := by
  cases x; cases y
  simp only [Out.mk.injEq, Bool.decide_and]
noncomputable def sp_txSameOut : Spec := spD (fun _ : Out × Out => True) fun x => decide (x.1 = x.2)
theorem sp_txSameOut_at (x y : Out) : sp_txSameOut [I x.coin, .l 2 (x.lock.map eOp), I y.coin, .l 2 (y.lock.map eOp)] = some [.b (decide (x = y))] := spD_at (f := fun x : Out × Out => decide (x.1 = x.2)) (x, y) trivial
def t_txSameOut : T :=
  .lets [.bin .eql (.v 0) (.v 2)] [] (.ite (.v 4) (.lets [.call 20 [.v 1, .v 3] 0] [] (.ret [.v 5])) (.ret [.c (.b false)]))
theorem m_txSameOut : Meets Tryz.prog sp_txSameOut 46 ⟨[.agg 2, .agg 2], [(false, [.scal])], true⟩ := by
  refine meets_fast (sp := (spsOf [(20, sp_eqOps)])) (sigs := sigsA) (cut := []) (hints := []) (fn := Tryz.f46) (t := t_txSameOut) (by kernel_rfl) (by kernel_rfl) (by kernel_rfl) ?_ ?_
  · exact (sig_of (L := [(20, sp_eqOps)]) ⟨sig_at rfl m_eqOps, trivial⟩)
  · rintro ds rs - h
    obtain ⟨⟨x, y⟩, -, rfl, rfl⟩ := spD_some h
    clear h
    refine ⟨⟨1, ?_⟩, scalOk_1 rfl⟩
    show den _ _ t_txSameOut [I x.coin, .l 2 (x.lock.map eOp), I y.coin, .l 2 (y.lock.map eOp)] [] = ret (decide (x = y))
    rw [← out_eq]
    unfold t_txSameOut
    repeat' (first | refine dq1 ?_ | refine dqc ?_ | refine dqm ?_ | refine dqk rfl (sp_eqOps_at _ _) ?_ | refine dqK rfl (sp_eqOps_at _ _) ?_ | exact den_ret rfl rfl | refine tR (fun h => ?_) fun h => ?_ | refine tB (fun h => ?_) fun h => ?_ | refine tC (fun h => ?_) fun h => ?_ | refine tN (fun h => ?_) fun h => ?_ | refine tF (fun h => ?_) fun h => ?_ | refine tG (fun h => ?_) fun h => ?_ | refine tP (fun h => ?_) fun h => ?_ | refine tQ (fun h => ?_) fun h => ?_ | refine tA (fun h => ?_) fun h => ?_ | refine tO (fun h => ?_) fun h => ?_ | refine tU (fun h => ?_) fun h => ?_ | refine tV (fun h => ?_) fun h => ?_ | refine dqT ?_ | refine dqF ?_ | refine den_t rfl ?_ | refine den_f rfl ?_ | refine dqTn ?_ | refine dqFn ?_)
theorem eq_by_len {α : Type} [DecidableEq α] (l m : List α) : decide (l = m) = if (l.length : Int) ≠ m.length then false else decide (l = m) := by
  by_cases h : (l.length : Int) ≠ m.length
  · rw [if_pos h, decide_eq_false]
    rintro rfl
    exact h rfl
  · rw [if_neg h]
end Go.Proofs.YtnklncinjahckaaGreatDoor
namespace Go.Proofs.YtnklncinjahckaaGreatDoor
open Go.RowKit
open Go.Lib (itoa)
set_option linter.unusedVariables false
set_option linter.unusedSimpArgs false
set_option maxRecDepth 100000
set_option maxHeartbeats 4000000
theorem in_eq (x y : In) : (if x.p = y.p then decide (x.key = y.key) else false) = decide (x = y) := by
  cases x; cases y
  by_cases h : (‹Point› : Point) = ‹Point› <;> simp only [In.mk.injEq, Bool.decide_and] <;> split <;> simp [*]
theorem tx_eq (t u : Tx) : (if t.height = u.height then if decide (t.ins = u.ins) = true then decide (t.outs = u.outs) else false else false) = decide (t = u) := by
  cases t; cases u
  simp only [Tx.mk.injEq, Bool.decide_and]
  split <;> rename_i h
  · split <;> rename_i h2
    · simp [h, h2]
    · simp [h, h2]
  · simp [h]
noncomputable def sp_txSame1 : Spec := spD (fun _ : In × In => True) fun x => decide (x.1 = x.2)
theorem sp_txSame1_at (x y : In) : sp_txSame1 (eIn x ++ eIn y) = some [.b (decide (x = y))] := spD_at (f := fun x : In × In => decide (x.1 = x.2)) (x, y) trivial
noncomputable def sp_efIn : Spec := spD (fun _ : List In × List In => True) fun x => decide (x.1 = x.2)
theorem sp_efIn_at (l m : List In) : sp_efIn [.l 3 (l.map eIn), .l 3 (m.map eIn)] = some [.b (decide (l = m))] := spD_at (f := fun x : List In × List In => decide (x.1 = x.2)) (l, m) trivial
noncomputable def sp_efOut : Spec := spD (fun _ : List Out × List Out => True) fun x => decide (x.1 = x.2)
theorem sp_efOut_at (l m : List Out) : sp_efOut [.l 2 (l.map eOut), .l 2 (m.map eOut)] = some [.b (decide (l = m))] := spD_at (f := fun x : List Out × List Out => decide (x.1 = x.2)) (l, m) trivial
noncomputable def sp_txSame : Spec := spD (fun _ : Tx × Tx => True) fun x => decide (x.1 = x.2)
theorem sp_txSame_at (x y : Tx) : sp_txSame (eTx x ++ eTx y) = some [.b (decide (x = y))] := spD_at (f := fun x : Tx × Tx => decide (x.1 = x.2)) (x, y) trivial
attribute [local irreducible] specOf spD ordP opsCheck txCheck
attribute [local irreducible] den denX denXs holdXs
def t_txSame1 : T :=
  .lets [.eqs false [(.v 0, .v 3), (.v 1, .v 4)]] [] (.ite (.v 6) (.lets [.call 20 [.v 2, .v 5] 0] [] (.ret [.v 7])) (.ret [.c (.b false)]))
def t_efIn_0 : T :=
  .lets [.call 65 [.v 9, .v 10, .v 11, .v 12, .v 13, .v 14] 0] [] (.lets [.not (.v 15)] [] (.ite (.v 16) (.ret [.c (.b false)]) (.lets [.bin .add (.v 7) (.c (.i .i64 1))] [] (.again 0
  [.v 6, .v 17]))))
def t_efIn_1 : T :=
  .lets [.idx (.v 0) (.v 7) 0, .idx (.v 0) (.v 7) 1, .idx (.v 0) (.v 7) 2] [] (.lets [] [.inr 3 (.v 1) (.v 7)] (.lets [.idx (.v 1) (.v 7) 0, .idx (.v 1) (.v 7) 1, .idx (.v 1) (.v 7)
  2] [] t_efIn_0))
def t_efIn_2 : T :=
  .lets [.len (.v 0)] [] (.loop [.c (.b false), .c (.i .i64 0)] (.lets [.bin .lss (.v 7) (.v 5)] [] (.ite (.v 8) (.lets [] [.inr 3 (.v 0) (.v 7)] t_efIn_1) (.ret [.c (.b true)]))))
def t_efIn : T :=
  .lets [.len (.v 0)] [] (.lets [.len (.v 1)] [] (.lets [.bin .neq (.v 2) (.v 3)] [] (.ite (.v 4) (.ret [.c (.b false)]) t_efIn_2)))
def t_efOut_0 : T :=
  .lets [.call 21 [.v 9, .v 10, .v 11, .v 12] 0] [] (.lets [.not (.v 13)] [] (.ite (.v 14) (.ret [.c (.b false)]) (.lets [.bin .add (.v 7) (.c (.i .i64 1))] [] (.again 0 [.v 6, .v
  15]))))
def t_efOut_1 : T :=
  .lets [] [.inr 2 (.v 0) (.v 7)] (.lets [.idx (.v 0) (.v 7) 0, .idx (.v 0) (.v 7) 1] [] (.lets [] [.inr 2 (.v 1) (.v 7)] (.lets [.idx (.v 1) (.v 7) 0, .idx (.v 1) (.v 7) 1] []
  t_efOut_0)))
def t_efOut_2 : T :=
  .ite (.v 4) (.ret [.c (.b false)]) (.lets [.len (.v 0)] [] (.loop [.c (.b false), .c (.i .i64 0)] (.lets [.bin .lss (.v 7) (.v 5)] [] (.ite (.v 8) t_efOut_1 (.ret [.c (.b
  true)])))))
def t_efOut : T :=
  .lets [.len (.v 0)] [] (.lets [.len (.v 1)] [] (.lets [.bin .neq (.v 2) (.v 3)] [] t_efOut_2))
def t_txSame : T :=
  .lets [.bin .eql (.v 0) (.v 3)] [] (.ite (.v 6) (.lets [.call 66 [.v 1, .v 4] 0] [] (.ite (.v 7) (.lets [.call 67 [.v 2, .v 5] 0] [] (.ret [.v 8])) (.ret [.c (.b false)]))) (.ret
  [.c (.b false)]))
attribute [local irreducible] sp_eqOps
theorem m_txSame1 : Meets Tryz.prog sp_txSame1 75 ⟨[.agg 3, .agg 3], [(false, [.scal])], true⟩ := by
  refine meets_fast (sp := (spsOf [(20, sp_eqOps)])) (sigs := sigsA) (cut := []) (hints := []) (fn := Tryz.f75) (t := t_txSame1) (by kernel_rfl) (by kernel_rfl) (by kernel_rfl) ?_ ?_
  · exact (sig_of (L := [(20, sp_eqOps)]) ⟨sig_at rfl m_eqOps, trivial⟩)
  · rintro ds rs - h
    obtain ⟨⟨x, y⟩, -, rfl, rfl⟩ := spD_some h
    clear h
    refine ⟨⟨1, ?_⟩, scalOk_1 rfl⟩
    show den _ _ t_txSame1 [I x.p.tx, I x.p.at_, .l 2 (x.key.map eOp), I y.p.tx, I y.p.at_, .l 2 (y.key.map eOp)] [] = ret (decide (x = y))
    rw [← in_eq]
    unfold t_txSame1
    repeat' (first | refine dq1 ?_ | refine dqc ?_ | refine dqm ?_ | refine dqk rfl (sp_eqOps_at _ _) ?_ | refine dqK rfl (sp_eqOps_at _ _) ?_ | exact den_ret rfl rfl | refine tR (fun h => ?_) fun h => ?_ | refine tB (fun h => ?_) fun h => ?_ | refine tC (fun h => ?_) fun h => ?_ | refine tN (fun h => ?_) fun h => ?_ | refine tF (fun h => ?_) fun h => ?_ | refine tG (fun h => ?_) fun h => ?_ | refine tP (fun h => ?_) fun h => ?_ | refine tQ (fun h => ?_) fun h => ?_ | refine tA (fun h => ?_) fun h => ?_ | refine tO (fun h => ?_) fun h => ?_ | refine tU (fun h => ?_) fun h => ?_ | refine tV (fun h => ?_) fun h => ?_ | refine dqT ?_ | refine dqF ?_ | refine den_t rfl ?_ | refine den_f rfl ?_ | refine dqTn ?_ | refine dqFn ?_)
theorem m_efIn : Meets Tryz.prog sp_efIn 74 ⟨[.one, .one, .clos 75 []], [(false, [.scal])], true⟩ := by
  refine meets_fast (sp := (spsOf [(65, sp_txSame1)])) (sigs := sigsA) (cut := []) (hints := [⟨4, [.t 6, .t 17]⟩]) (fn := Tryz.f74) (t := t_efIn) (by kernel_rfl) (by kernel_rfl) (by kernel_rfl) ?_ ?_
  · exact (sig_of (L := [(65, sp_txSame1)]) ⟨sig_at rfl m_txSame1, trivial⟩)
  · rintro ds rs hok h
    obtain ⟨⟨l, m⟩, -, rfl, rfl⟩ := spD_some h
    clear h
    have hll := ok_l (hok (.l 3 (l.map eIn)) (List.mem_cons_self ..))
    refine ⟨⟨l.length + 1, ?_⟩, scalOk_1 rfl⟩
    show den _ _ t_efIn [.l 3 (l.map eIn), .l 3 (m.map eIn)] [] = ret (decide (l = m))
    rw [eq_by_len]
    unfold t_efIn
    repeat' (first | refine dq1 ?_ | refine dqc ?_ | refine dqm ?_ | exact den_ret rfl rfl | refine tR (fun h => ?_) fun h => ?_ | refine tB (fun h => ?_) fun h => ?_ | refine tC (fun h => ?_) fun h => ?_ | refine tN (fun h => ?_) fun h => ?_ | refine tF (fun h => ?_) fun h => ?_ | refine tG (fun h => ?_) fun h => ?_ | refine tP (fun h => ?_) fun h => ?_ | refine tQ (fun h => ?_) fun h => ?_ | refine tA (fun h => ?_) fun h => ?_ | refine tO (fun h => ?_) fun h => ?_ | refine tU (fun h => ?_) fun h => ?_ | refine tV (fun h => ?_) fun h => ?_ | refine dqT ?_ | refine dqF ?_ | refine den_t rfl ?_ | refine den_f rfl ?_ | refine dqTn ?_ | refine dqFn ?_)
    have hlm : l.length = m.length := by omega
    (refine den_range (fun (_ : Unit) k => [.b false, I k]) (fun (_ : Unit) k (r : List In) => decide (r = m.drop k)) (fun _ _ => True) () l ?_ ?_ ?_ ?_ ?_; rfl; exact trivial; first | exact Nat.lt_succ_self _ | omega)
    · rintro _ k x r hx hd hk - again hag
      have hy : m[k]? = some (m[k]'(by omega)) := List.getElem?_eq_getElem (by omega)
      have hdy : m.drop k = m[k]'(by omega) :: m.drop (k + 1) := List.drop_eq_getElem_cons (by omega)
      rw [hdy]
      generalize m[k]'(by omega) = y at *
      have e : decide (x :: r = y :: m.drop (k + 1)) = if decide (x = y) = true then decide (r = m.drop (k + 1)) else false := by
        by_cases h : x = y
        · simp [h]
        · simp [h]
      rw [e]
      have hkm : k < m.length := by omega
      repeat' (first | refine dq1 ?_ | refine dqc ?_ | refine dqm ?_ | refine dqk rfl (sp_txSame1_at x y) ?_ | refine dqK rfl (sp_txSame1_at x y) ?_ | exact den_ret rfl rfl | exact den_again rfl rfl (hag () trivial) | exact den_again rfl rfl (hag _ trivial) | exact den_again rfl rfl (hag _ (by omega)) | exact den_again rfl rfl (hag _ (by assumption)) | refine tR (fun h => ?_) fun h => ?_ | refine tB (fun h => ?_) fun h => ?_ | refine tC (fun h => ?_) fun h => ?_ | refine tN (fun h => ?_) fun h => ?_ | refine tF (fun h => ?_) fun h => ?_ | refine tG (fun h => ?_) fun h => ?_ | refine tP (fun h => ?_) fun h => ?_ | refine tQ (fun h => ?_) fun h => ?_ | refine tA (fun h => ?_) fun h => ?_ | refine tO (fun h => ?_) fun h => ?_ | refine tU (fun h => ?_) fun h => ?_ | refine tV (fun h => ?_) fun h => ?_ | refine dqT ?_ | refine dqF ?_ | refine den_t rfl ?_ | refine den_f rfl ?_ | refine dqTn ?_ | refine dqFn ?_)
    · rintro _ - again
      rw [hlm, List.drop_length]
      repeat' (first | refine dq1 ?_ | refine dqc ?_ | refine dqm ?_ | exact den_ret rfl rfl | refine tR (fun h => ?_) fun h => ?_ | refine tB (fun h => ?_) fun h => ?_ | refine tC (fun h => ?_) fun h => ?_ | refine tN (fun h => ?_) fun h => ?_ | refine tF (fun h => ?_) fun h => ?_ | refine tG (fun h => ?_) fun h => ?_ | refine tP (fun h => ?_) fun h => ?_ | refine tQ (fun h => ?_) fun h => ?_ | refine tA (fun h => ?_) fun h => ?_ | refine tO (fun h => ?_) fun h => ?_ | refine tU (fun h => ?_) fun h => ?_ | refine tV (fun h => ?_) fun h => ?_ | refine dqT ?_ | refine dqF ?_ | refine den_t rfl ?_ | refine den_f rfl ?_ | refine dqTn ?_ | refine dqFn ?_)
attribute [local irreducible] sp_txSameOut
theorem m_efOut : Meets Tryz.prog sp_efOut 77 ⟨[.one, .one, .clos 46 []], [(false, [.scal])], true⟩ := by
  refine meets_fast (sp := (spsOf [(21, sp_txSameOut)])) (sigs := sigsA) (cut := []) (hints := [⟨4, [.t 6, .t 17]⟩]) (fn := Tryz.f77) (t := t_efOut) (by kernel_rfl) (by kernel_rfl) (by kernel_rfl) ?_ ?_
  · exact (sig_of (L := [(21, sp_txSameOut)]) ⟨sig_at rfl m_txSameOut, trivial⟩)
  · rintro ds rs hok h
    obtain ⟨⟨l, m⟩, -, rfl, rfl⟩ := spD_some h
    clear h
    have hll := ok_l (hok (.l 2 (l.map eOut)) (List.mem_cons_self ..))
    refine ⟨⟨l.length + 1, ?_⟩, scalOk_1 rfl⟩
    show den _ _ t_efOut [.l 2 (l.map eOut), .l 2 (m.map eOut)] [] = ret (decide (l = m))
    rw [eq_by_len]
    unfold t_efOut
    repeat' (first | refine dq1 ?_ | refine dqc ?_ | refine dqm ?_ | exact den_ret rfl rfl | refine tR (fun h => ?_) fun h => ?_ | refine tB (fun h => ?_) fun h => ?_ | refine tC (fun h => ?_) fun h => ?_ | refine tN (fun h => ?_) fun h => ?_ | refine tF (fun h => ?_) fun h => ?_ | refine tG (fun h => ?_) fun h => ?_ | refine tP (fun h => ?_) fun h => ?_ | refine tQ (fun h => ?_) fun h => ?_ | refine tA (fun h => ?_) fun h => ?_ | refine tO (fun h => ?_) fun h => ?_ | refine tU (fun h => ?_) fun h => ?_ | refine tV (fun h => ?_) fun h => ?_ | refine dqT ?_ | refine dqF ?_ | refine den_t rfl ?_ | refine den_f rfl ?_ | refine dqTn ?_ | refine dqFn ?_)
    have hlm : l.length = m.length := by omega
    (refine den_range (fun (_ : Unit) k => [.b false, I k]) (fun (_ : Unit) k (r : List Out) => decide (r = m.drop k)) (fun _ _ => True) () l ?_ ?_ ?_ ?_ ?_; rfl; exact trivial; first | exact Nat.lt_succ_self _ | omega)
    · rintro _ k x r hx hd hk - again hag
      have hy : m[k]? = some (m[k]'(by omega)) := List.getElem?_eq_getElem (by omega)
      have hdy : m.drop k = m[k]'(by omega) :: m.drop (k + 1) := List.drop_eq_getElem_cons (by omega)
      rw [hdy]
      generalize m[k]'(by omega) = y at *
      have e : decide (x :: r = y :: m.drop (k + 1)) = if decide (x = y) = true then decide (r = m.drop (k + 1)) else false := by
        by_cases h : x = y
        · simp [h]
        · simp [h]
      rw [e]
      have hkm : k < m.length := by omega
      repeat' (first | refine dq1 ?_ | refine dqc ?_ | refine dqm ?_ | refine dqk rfl (sp_txSameOut_at x y) ?_ | refine dqK rfl (sp_txSameOut_at x y) ?_ | exact den_ret rfl rfl | exact den_again rfl rfl (hag () trivial) | exact den_again rfl rfl (hag _ trivial) | exact den_again rfl rfl (hag _ (by omega)) | exact den_again rfl rfl (hag _ (by assumption)) | refine tR (fun h => ?_) fun h => ?_ | refine tB (fun h => ?_) fun h => ?_ | refine tC (fun h => ?_) fun h => ?_ | refine tN (fun h => ?_) fun h => ?_ | refine tF (fun h => ?_) fun h => ?_ | refine tG (fun h => ?_) fun h => ?_ | refine tP (fun h => ?_) fun h => ?_ | refine tQ (fun h => ?_) fun h => ?_ | refine tA (fun h => ?_) fun h => ?_ | refine tO (fun h => ?_) fun h => ?_ | refine tU (fun h => ?_) fun h => ?_ | refine tV (fun h => ?_) fun h => ?_ | refine dqT ?_ | refine dqF ?_ | refine den_t rfl ?_ | refine den_f rfl ?_ | refine dqTn ?_ | refine dqFn ?_)
    · rintro _ - again
      rw [hlm, List.drop_length]
      repeat' (first | refine dq1 ?_ | refine dqc ?_ | refine dqm ?_ | exact den_ret rfl rfl | refine tR (fun h => ?_) fun h => ?_ | refine tB (fun h => ?_) fun h => ?_ | refine tC (fun h => ?_) fun h => ?_ | refine tN (fun h => ?_) fun h => ?_ | refine tF (fun h => ?_) fun h => ?_ | refine tG (fun h => ?_) fun h => ?_ | refine tP (fun h => ?_) fun h => ?_ | refine tQ (fun h => ?_) fun h => ?_ | refine tA (fun h => ?_) fun h => ?_ | refine tO (fun h => ?_) fun h => ?_ | refine tU (fun h => ?_) fun h => ?_ | refine tV (fun h => ?_) fun h => ?_ | refine dqT ?_ | refine dqF ?_ | refine den_t rfl ?_ | refine den_f rfl ?_ | refine dqTn ?_ | refine dqFn ?_)
attribute [local irreducible] sp_efIn
theorem m_txSame : Meets Tryz.prog sp_txSame 26 ⟨[.agg 3, .agg 3], [(false, [.scal])], true⟩ := by
  refine meets_fast (sp := (spsOf [(66, sp_efIn), (67, sp_efOut)])) (sigs := sigsA) (cut := []) (hints := []) (fn := Tryz.f26) (t := t_txSame) (by kernel_rfl) (by kernel_rfl) (by kernel_rfl) ?_ ?_
  · exact (sig_of (L := [(66, sp_efIn), (67, sp_efOut)]) ⟨sig_at rfl m_efIn, sig_at rfl m_efOut, trivial⟩)
  · rintro ds rs - h
    obtain ⟨⟨x, y⟩, -, rfl, rfl⟩ := spD_some h
    clear h
    refine ⟨⟨1, ?_⟩, scalOk_1 rfl⟩
    show den _ _ t_txSame [I x.height, .l 3 (x.ins.map eIn), .l 2 (x.outs.map eOut), I y.height, .l 3 (y.ins.map eIn), .l 2 (y.outs.map eOut)] [] = ret (decide (x = y))
    rw [← tx_eq]
    unfold t_txSame
    repeat' (first | refine dq1 ?_ | refine dqc ?_ | refine dqm ?_ | refine dqk rfl (sp_efIn_at _ _) ?_ | refine dqK rfl (sp_efIn_at _ _) ?_ | refine dqk rfl (sp_efOut_at _ _) ?_ | refine dqK rfl (sp_efOut_at _ _) ?_ | exact den_ret rfl rfl | refine tR (fun h => ?_) fun h => ?_ | refine tB (fun h => ?_) fun h => ?_ | refine tC (fun h => ?_) fun h => ?_ | refine tN (fun h => ?_) fun h => ?_ | refine tF (fun h => ?_) fun h => ?_ | refine tG (fun h => ?_) fun h => ?_ | refine tP (fun h => ?_) fun h => ?_ | refine tQ (fun h => ?_) fun h => ?_ | refine tA (fun h => ?_) fun h => ?_ | refine tO (fun h => ?_) fun h => ?_ | refine tU (fun h => ?_) fun h => ?_ | refine tV (fun h => ?_) fun h => ?_ | refine dqT ?_ | refine dqF ?_ | refine den_t rfl ?_ | refine den_f rfl ?_ | refine dqTn ?_ | refine dqFn ?_)
def tx0 : Tx := ⟨0, [⟨⟨3, 1⟩, [⟨1, 7⟩]⟩], [⟨5, [⟨1, 7⟩, ⟨7, 0⟩]⟩]⟩
def text0 : List UInt8 := [116, 120, 32, 48, 10, 105, 110, 32, 51, 32, 49, 58, 55, 10, 111, 117, 116, 32, 53, 58, 55, 32, 115, 97, 109, 101, 10]
theorem tx0_ok : txCheck tx0 = 0 := by with_unfolding_all decide +kernel
theorem tx0_text : txText tx0 = text0 := by with_unfolding_all decide +kernel
theorem tx0_read : readTx text0 = (tx0, 0) := by rw [← tx0_text]; exact read_print tx0_ok
theorem tx0_print : printTx tx0 = (text0, 0) := by rw [printTx_ok tx0_ok, tx0_text]
noncomputable def sp_lWritten : Spec := spD (fun _ : Unit => True) fun _ => true
theorem sp_lWritten_at : sp_lWritten [] = some [.b true] := spD_at (f := fun _ : Unit => true) () trivial
attribute [local irreducible] readTx printTx sp_txParse sp_txPrint
def t_lWritten_0 : T :=
  .ite (.v 15) (.lets [] [.inr 2 (.v 2) (.c (.i .i64 0))] (.lets [.idx (.v 2) (.c (.i .i64 0)) 0] [] (.lets [.bin .eql (.v 16) (.c (.i .i64 5))] [] (.ret [.v 17])))) (.ret [.c (.b
  false)])
def t_lWritten_1 : T :=
  .lets [.eqs false [(.v 11, .c (.i .i64 3)), (.v 12, .c (.i .i64 1))]] [] (.ite (.v 13) (.lets [.len (.v 2)] [] (.lets [.bin .eql (.v 14) (.c (.i .i64 1))] [] t_lWritten_0)) (.ret
  [.c (.b false)]))
def t_lWritten_2 : T :=
  .ite (.v 10) (.lets [] [.inr 3 (.v 1) (.c (.i .i64 0))] (.lets [.idx (.v 1) (.c (.i .i64 0)) 0, .idx (.v 1) (.c (.i .i64 0)) 1] [] t_lWritten_1)) (.ret [.c (.b false)])
def t_lWritten_3 : T :=
  .lets [.bin .eql (.v 4) (.c (.s [116, 120, 32, 48, 10, 105, 110, 32, 51, 32, 49, 58, 55, 10, 111, 117, 116, 32, 53, 58, 55, 32, 115, 97, 109, 101, 10]))] [] (.ite (.v 8) (.lets
  [.len (.v 1)] [] (.lets [.bin .eql (.v 9) (.c (.i .i64 1))] [] t_lWritten_2)) (.ret [.c (.b false)]))
def t_lWritten_4 : T :=
  .lets [.bin .eql (.v 3) (.c (.i .i64 0))] [] (.ite (.v 6) (.lets [.bin .eql (.v 5) (.c (.i .i64 0))] [] (.ite (.v 7) t_lWritten_3 (.ret [.c (.b false)]))) (.ret [.c (.b false)]))
def t_lWritten : T :=
  .lets [.call 61 [.c (.s [116, 120, 32, 48, 10, 105, 110, 32, 51, 32, 49, 58, 55, 10, 111, 117, 116, 32, 53, 58, 55, 32, 115, 97, 109, 101, 10])] 0, .call 61 [.c (.s [116, 120, 32,
  48, 10, 105, 110, 32, 51, 32, 49, 58, 55, 10, 111, 117, 116, 32, 53, 58, 55, 32, 115, 97, 109, 101, 10])] 1, .call 61 [.c (.s [116, 120, 32, 48, 10, 105, 110, 32, 51, 32, 49, 58,
  55, 10, 111, 117, 116, 32, 53, 58, 55, 32, 115, 97, 109, 101, 10])] 2, .call 61 [.c (.s [116, 120, 32, 48, 10, 105, 110, 32, 51, 32, 49, 58, 55, 10, 111, 117, 116, 32, 53, 58, 55,
  32, 115, 97, 109, 101, 10])] 3] [] (.lets [.call 62 [.v 0, .v 1, .v 2] 0, .call 62 [.v 0, .v 1, .v 2] 1] [] t_lWritten_4)
theorem m_lWritten : Meets Tryz.prog sp_lWritten 24 ⟨[], [(false, [.scal])], true⟩ := by
  refine meets_fast (sp := (spsOf [(61, sp_txParse), (62, sp_txPrint)])) (sigs := sigsA) (cut := []) (hints := []) (fn := Tryz.f24) (t := t_lWritten) (by kernel_rfl) (by kernel_rfl) (by kernel_rfl) ?_ ?_
  · exact (sig_of (L := [(61, sp_txParse), (62, sp_txPrint)]) ⟨sig_at rfl m_txParse, sig_at rfl m_txPrint, trivial⟩)
  · rintro ds rs - h
    obtain ⟨⟨⟩, -, rfl, rfl⟩ := spD_some h
    clear h
    refine ⟨⟨1, ?_⟩, scalOk_1 rfl⟩
    show den _ _ t_lWritten [] [] = ret true
    have a1 := sp_txParse_at text0
    rw [tx0_read] at a1
    have a2 := sp_txPrint_at tx0
    rw [tx0_print] at a2
    have x0 : tx0.ins[0]? = some ⟨⟨3, 1⟩, [⟨1, 7⟩]⟩ := rfl
    have x1 : tx0.outs[0]? = some ⟨5, [⟨1, 7⟩, ⟨7, 0⟩]⟩ := rfl
    have x2 : tx0.ins.length = 1 := rfl
    have x3 : tx0.outs.length = 1 := rfl
    unfold t_lWritten
    repeat' (first | refine dq1 ?_ | refine dqc ?_ | refine dqm ?_ | refine dqk rfl (a1) ?_ | refine dqK rfl (a1) ?_ | refine dqk rfl (a2) ?_ | refine dqK rfl (a2) ?_ | refine den_let1 (dx_eqP (p := ⟨3, 1⟩) (q := ⟨3, 1⟩) rfl rfl rfl rfl) ?_ | exact den_ret rfl rfl | refine tR (fun h => ?_) fun h => ?_ | refine tB (fun h => ?_) fun h => ?_ | refine tC (fun h => ?_) fun h => ?_ | refine tN (fun h => ?_) fun h => ?_ | refine tF (fun h => ?_) fun h => ?_ | refine tG (fun h => ?_) fun h => ?_ | refine tP (fun h => ?_) fun h => ?_ | refine tQ (fun h => ?_) fun h => ?_ | refine tA (fun h => ?_) fun h => ?_ | refine tO (fun h => ?_) fun h => ?_ | refine tU (fun h => ?_) fun h => ?_ | refine tV (fun h => ?_) fun h => ?_ | refine dqT ?_ | refine dqF ?_ | refine den_t rfl ?_ | refine den_f rfl ?_ | refine dqTn ?_ | refine dqFn ?_)
end Go.Proofs.YtnklncinjahckaaGreatDoor
namespace Go.Proofs.YtnklncinjahckaaGreatDoor
open Go.RowKit
set_option linter.unusedVariables false
set_option linter.unusedSimpArgs false
set_option maxRecDepth 100000
set_option maxHeartbeats 4000000
noncomputable def sp_rCheckOps : Spec := spD (fun _ : List Op => True) fun l => opsCheck l
theorem sp_rCheckOps_at (l : List Op) : sp_rCheckOps [.l 2 (l.map eOp)] = some [I (opsCheck l)] := spD_at (f := fun l : List Op => opsCheck l) l trivial
theorem m_rCheckOps : Meets Tryz.prog sp_rCheckOps 67 ⟨[.one], [(false, [.scal])], true⟩ :=
  meets_scal2 (e := fun x : { x : List Op // True } => Enc.e x.1) (d := fun x => I (opsCheck x.1)) rfl (en_of (fn := Tryz.f67) (by kernel_rfl) (by kernel_rfl) (by kernel_rfl)) (fun _ => rfl) fun x W F us hF h => by
    obtain ⟨v, us, rfl, h1, h⟩ := pks_one h
    obtain rfl := pks_nil h
    obtain ⟨A, n, c, rfl, k1⟩ := rep_rds she_op h1
    exact (refOps_any x.1 A n c W F k1 hF).mono fun e w' h => ⟨_, h.1, h.2, .i _ _ (wrap_i64 (er_ops x.1).i64)⟩
attribute [local irreducible] specOf spD ordP
end Go.Proofs.YtnklncinjahckaaGreatDoor
namespace Go.Proofs.YtnklncinjahckaaGreatDoor
open Go.RowKit
open Go.Lib (itoa atoiAll atoiSat)
set_option linter.unusedVariables false
set_option linter.unusedSimpArgs false
set_option maxRecDepth 100000
set_option maxHeartbeats 4000000
def wordsText : List UInt8 := [45, 32, 45, 32, 100, 117, 112, 32, 115, 119, 97, 112, 32, 100, 114, 111, 112, 32, 97, 100, 100, 32, 115, 117, 98, 32, 115, 97, 109, 101, 32, 108, 101, 115, 115, 32, 110, 111, 116, 32, 97, 110, 100, 32, 118, 101, 114, 105, 102, 121, 32, 104, 101, 105, 103, 104, 116, 32, 109, 105, 120]
def wordsL : List (List UInt8) := [45] :: [45] :: opNames.drop 2
theorem fields_words : Go.Lib.fields wordsText = wordsL := by decide +kernel
theorem words_ascii : ∀ b ∈ wordsText, b.toNat < 128 := by decide
theorem words_short : ∀ y ∈ wordsL, y.length ≤ 1000000 := by decide
theorem sp_words : sp_strFields [.s wordsText] = some [.l 1 (wordsL.map eStr)] := by
  have h := sp_strFields_at wordsText ⟨by decide, words_ascii, by rw [fields_words]; decide, by rw [fields_words]; exact words_short⟩
  rw [fields_words] at h
  exact h
theorem wordsL_at {k : Int} (h0 : 2 ≤ k) (h1 : k ≤ 13) : wordsL[k.toNat]? = some ((opNames[k.toNat]?).getD []) := by
  have hk : k = 2 ∨ k = 3 ∨ k = 4 ∨ k = 5 ∨ k = 6 ∨ k = 7 ∨ k = 8 ∨ k = 9 ∨ k = 10 ∨ k = 11 ∨ k = 12 ∨ k = 13 := by omega
  rcases hk with rfl | rfl | rfl | rfl | rfl | rfl | rfl | rfl | rfl | rfl | rfl | rfl <;> rfl
def joinTail (acc : List UInt8) (first : Bool) : List (List UInt8) → List UInt8
  | [] => acc
  | x :: r => joinTail (if first then acc ++ x else acc ++ [32] ++ x) false r
theorem joinTail_join : ∀ (r : List (List UInt8)) (acc : List UInt8), joinTail acc false r = acc ++ (match r with | [] => [] | _ => 32 :: joinC 32 r)
  | [], acc => by simp [joinTail]
  | x :: r, acc => by
    rw [joinTail, joinTail_join r]
    cases r with
    | nil => simp [joinC]
    | cons y r => simp [joinC]
theorem joinTail_all (l : List (List UInt8)) : joinTail [] true l = joinC 32 l := by
  cases l with
  | nil => rfl
  | cons x r =>
    rw [joinTail, joinTail_join]
    cases r with
    | nil => simp [joinC]
    | cons y r => simp [joinC]
noncomputable def sp_rOpsText : Spec := spD (fun l : List Op => opsCheck l = 0) fun l => opsText l
theorem sp_rOpsText_at (l : List Op) (h : opsCheck l = 0) : sp_rOpsText [.l 2 (l.map eOp)] = some [.s (opsText l)] := spD_at (p := fun l : List Op => opsCheck l = 0) (f := fun l : List Op => opsText l) l h
attribute [local irreducible] specOf spD ordP itoa opsCheck openOf joinC sp_lockNames readGo atoiOf cutAt kindGo kindOf joinTail
attribute [local irreducible] den denX denXs holdXs
def t_rOpsText_0 : T :=
  .lets [] [.inr 1 (.v 1) (.v 6)] (.lets [.idx (.v 1) (.v 6) 0] [] (.lets [.bin .add (.v 9) (.v 11)] [] (.lets [.bin .add (.v 4) (.c (.i .i64 1))] [] (.again 0 [.v 12, .v 13]))))
def t_rOpsText_1 : T :=
  .ite (.v 10) (.lets [.call 37 [.v 7] 0] [] (.lets [.bin .add (.v 9) (.v 11)] [] (.lets [.bin .add (.v 4) (.c (.i .i64 1))] [] (.again 0 [.v 12, .v 13])))) t_rOpsText_0
def t_rOpsText_2 : T :=
  .lets [] [.inr 1 (.v 1) (.v 6)] (.lets [.idx (.v 1) (.v 6) 0] [] (.lets [.bin .add (.v 3) (.v 10)] [] (.lets [.bin .add (.v 4) (.c (.i .i64 1))] [] (.again 0 [.v 11, .v 12]))))
def t_rOpsText_3 : T :=
  .ite (.v 9) (.lets [.call 37 [.v 7] 0] [] (.lets [.bin .add (.v 3) (.v 10)] [] (.lets [.bin .add (.v 4) (.c (.i .i64 1))] [] (.again 0 [.v 11, .v 12])))) t_rOpsText_2
def t_rOpsText_4 : T :=
  .ite (.v 8) (.lets [.bin .add (.v 3) (.c (.s [32]))] [] (.lets [.bin .eql (.v 6) (.c (.i .i64 1))] [] t_rOpsText_1)) (.lets [.bin .eql (.v 6) (.c (.i .i64 1))] [] t_rOpsText_3)
def t_rOpsText_5 : T :=
  .ite (.v 5) (.lets [] [.inr 2 (.v 0) (.v 4)] (.lets [.idx (.v 0) (.v 4) 0, .idx (.v 0) (.v 4) 1] [] (.lets [.bin .gtr (.v 4) (.c (.i .i64 0))] [] t_rOpsText_4))) (.ret [.v 3])
def t_rOpsText : T :=
  .lets [.call 45 [.c (.s [45, 32, 45, 32, 100, 117, 112, 32, 115, 119, 97, 112, 32, 100, 114, 111, 112, 32, 97, 100, 100, 32, 115, 117, 98, 32, 115, 97, 109, 101, 32, 108, 101, 115,
  115, 32, 110, 111, 116, 32, 97, 110, 100, 32, 118, 101, 114, 105, 102, 121, 32, 104, 101, 105, 103, 104, 116, 32, 109, 105, 120])] 0] [] (.lets [.len (.v 0)] [] (.loop [.c (.s []),
  .c (.i .i64 0)] (.lets [.bin .lss (.v 4) (.v 2)] [] t_rOpsText_5)))
def t_rWhole_0 : T :=
  .lets [.ise false (.v 2)] [] (.ite (.v 3) (.lets [.call 43 [.v 1, .c (.i .i64 10)] 0] [] (.lets [.bin .eql (.v 4) (.v 0)] [] (.ret [.v 1, .v 5]))) (.ret [.v 1, .c (.b false)]))
def t_rWhole : T :=
  .lets [.call 44 [.v 0, .c (.i .i64 10), .c (.i .i64 64)] 0, .call 44 [.v 0, .c (.i .i64 10), .c (.i .i64 64)] 1] [] t_rWhole_0
def t_rReadOps_0 : T :=
  .lets [.mk 2 [[.v 11, .c (.i .i64 0)]]] [] (.lets [.app 2 (.v 5) (.v 15)] [] (.lets [.bin .add (.v 8) (.c (.i .i64 1))] [] (.again 0 [.v 16, .v 6, .v 7, .v 17])))
def t_rReadOps_1 : T :=
  .lets [.mk 2 [[.c (.i .i64 1), .v 12]]] [] (.lets [.app 2 (.v 5) (.v 15)] [] (.lets [.bin .add (.v 8) (.c (.i .i64 1))] [] (.again 0 [.v 16, .v 6, .v 7, .v 17])))
def t_rReadOps_2 : T :=
  .lets [.call 57 [.v 10] 0, .call 57 [.v 10] 1] [] (.lets [.bin .geq (.v 11) (.c (.i .i64 2))] [] (.ite (.v 14) t_rReadOps_0 (.ite (.v 13) t_rReadOps_1 (.ret [.c (.nil 2), .c (.i
  .i64 1)]))))
def t_rReadOps_3 : T :=
  .ite (.v 9) (.lets [] [.inr 1 (.v 3) (.v 8)] (.lets [.idx (.v 3) (.v 8) 0] [] (.lets [.call 54 [.v 2, .v 10] 0] [] t_rReadOps_2))) (.lets [.call 25 [.v 5] 0] [] (.lets [.bin .neq
  (.v 10) (.c (.i .i64 0))] [] (.ite (.v 11) (.ret [.c (.nil 2), .v 10]) (.ret [.v 5, .c (.i .i64 0)]))))
def t_rReadOps_4 : T :=
  .lets [.call 41 [.v 0, .c (.s [32])] 0] [] (.lets [.len (.v 3)] [] (.loop [.c (.nil 2), .c (.nil 2), .c (.i .i64 0), .c (.i .i64 0)] (.lets [.bin .lss (.v 8) (.v 4)] []
  t_rReadOps_3)))
def t_rReadOps_5 : T :=
  .lets [.call 45 [.c (.s [45, 32, 45, 32, 100, 117, 112, 32, 115, 119, 97, 112, 32, 100, 114, 111, 112, 32, 97, 100, 100, 32, 115, 117, 98, 32, 115, 97, 109, 101, 32, 108, 101, 115,
  115, 32, 110, 111, 116, 32, 97, 110, 100, 32, 118, 101, 114, 105, 102, 121, 32, 104, 101, 105, 103, 104, 116, 32, 109, 105, 120])] 0] [] t_rReadOps_4
def t_rReadOps : T :=
  .lets [.bin .eql (.v 0) (.c (.s []))] [] (.ite (.v 1) (.ret [.c (.nil 2), .c (.i .i64 0)]) t_rReadOps_5)
section
variable {sp : Nat → Spec} {N : Nat} {E E' : Env} {ks : List (List Dt → Option (List Dt))} {res : Option (List Dt)}
theorem dx_cat {a b : Atom} {x y : List UInt8} (ha : a.val E = some (.s x)) (hb : b.val E = some (.s y)) (h : x.length + y.length ≤ 1000000000) : denX sp E (.bin .add a b) = some (.s (x ++ y)) := by
  have e : denX sp E (.bin .add a b) = (if x.length + y.length ≤ 1000000000 then some (.s (x ++ y)) else none) := by with_unfolding_all simp only [denX, ha, hb, Option.bind_eq_bind, Option.bind_some]; with_unfolding_all rfl
  rw [e, if_pos h]
end
attribute [local irreducible] sp_itoa sp_strFields
theorem m_rOpsText : Meets Tryz.prog sp_rOpsText 79 ⟨[.one], [(false, [.scal])], true⟩ := by
  refine meets_fast (sp := (spsOf [(37, sp_itoa), (45, sp_strFields)])) (sigs := sigsA) (cut := []) (hints := [⟨4, [.t 4, .t 10]⟩]) (fn := Tryz.f79) (t := t_rOpsText) (by kernel_rfl) (by kernel_rfl) (by kernel_rfl) ?_ ?_
  · exact (sig_of (L := [(37, sp_itoa), (45, sp_strFields)]) ⟨sig_at rfl m_itoa, sig_at rfl m_strFields, trivial⟩)
  · rintro ds rs - h
    obtain ⟨l, hc0, rfl, rfl⟩ := spD_some h
    clear h
    refine ⟨⟨l.length + 1, ?_⟩, scalOk_1 rfl⟩
    show den _ _ t_rOpsText [.l 2 (l.map eOp)] [] = ret (opsText l)
    obtain ⟨hl16, hall⟩ := opsCheck_all hc0
    have et : opsText l = joinTail [] true (l.map textOp) := by rw [joinTail_all]; with_unfolding_all rfl
    rw [et]
    have a1 := sp_words
    unfold t_rOpsText
    repeat' (first | refine dq1 ?_ | refine dqc ?_ | refine dqm ?_ | refine dqk rfl (a1) ?_ | refine dqK rfl (a1) ?_ | exact den_ret rfl rfl | refine tR (fun h => ?_) fun h => ?_ | refine tB (fun h => ?_) fun h => ?_ | refine tC (fun h => ?_) fun h => ?_ | refine tN (fun h => ?_) fun h => ?_ | refine tF (fun h => ?_) fun h => ?_ | refine tG (fun h => ?_) fun h => ?_ | refine tP (fun h => ?_) fun h => ?_ | refine tQ (fun h => ?_) fun h => ?_ | refine tA (fun h => ?_) fun h => ?_ | refine tO (fun h => ?_) fun h => ?_ | refine tU (fun h => ?_) fun h => ?_ | refine tV (fun h => ?_) fun h => ?_ | refine dqT ?_ | refine dqF ?_ | refine den_t rfl ?_ | refine den_f rfl ?_ | refine dqTn ?_ | refine dqFn ?_)
    (refine den_range (fun (a : List UInt8) k => [.s a, I k]) (fun (a : List UInt8) k (r : List Op) => joinTail a (decide (k = 0)) (r.map textOp)) (fun a k => a.length ≤ 100 * k) [] l ?_ ?_ ?_ ?_ ?_; rfl; exact Nat.zero_le _; omega)
    · rintro a k o r hx hd hk ha again hag
      have hbad := hall o (List.mem_of_getElem? hx)
      have ho := opBad_ok hbad
      obtain ⟨ho1, ho2, -⟩ := ho
      have hto := textOp_len hbad
      have e1 : joinTail a (decide (k = 0)) (textOp o :: r.map textOp) = joinTail (if decide (k = 0) = true then a ++ textOp o else a ++ [32] ++ textOp o) false (r.map textOp) := by with_unfolding_all rfl
      rw [List.map_cons, e1]
      have hk1 : decide (k + 1 = 0) = false := rfl
      by_cases hk0 : k = 0
      · rw [if_pos (decide_eq_true hk0)]
        have ha' := hag (a ++ textOp o) (by rw [List.length_append]; omega)
        rw [hk1] at ha'
        repeat' (first | refine dq1 ?_ | refine dqc ?_ | refine dqm ?_ | exact den_ret rfl rfl | refine tR (fun h => ?_) fun h => ?_ | refine tB (fun h => ?_) fun h => ?_ | refine tC (fun h => ?_) fun h => ?_ | refine tN (fun h => ?_) fun h => ?_ | refine tF (fun h => ?_) fun h => ?_ | refine tG (fun h => ?_) fun h => ?_ | refine tP (fun h => ?_) fun h => ?_ | refine tQ (fun h => ?_) fun h => ?_ | refine tA (fun h => ?_) fun h => ?_ | refine tO (fun h => ?_) fun h => ?_ | refine tU (fun h => ?_) fun h => ?_ | refine tV (fun h => ?_) fun h => ?_ | refine dqT ?_ | refine dqF ?_ | refine den_t rfl ?_ | refine den_f rfl ?_ | refine dqTn ?_ | refine dqFn ?_)
        refine den_sp rfl (fun h => ?_) (fun h => ?_)
        · have ht : textOp o = itoa o.n := by with_unfolding_all exact if_pos h
          rw [ht] at ha' hto ⊢
          repeat' (first | refine dq1 ?_ | refine dqc ?_ | refine dqm ?_ | refine dqk rfl (sp_itoa_at _) ?_ | refine dqK rfl (sp_itoa_at _) ?_ | refine den_let1 (dx_cat rfl rfl (by omega)) ?_ | exact den_ret rfl rfl | refine tR (fun h => ?_) fun h => ?_ | refine tB (fun h => ?_) fun h => ?_ | refine tC (fun h => ?_) fun h => ?_ | refine tN (fun h => ?_) fun h => ?_ | refine tF (fun h => ?_) fun h => ?_ | refine tG (fun h => ?_) fun h => ?_ | refine tP (fun h => ?_) fun h => ?_ | refine tQ (fun h => ?_) fun h => ?_ | refine tA (fun h => ?_) fun h => ?_ | refine tO (fun h => ?_) fun h => ?_ | refine tU (fun h => ?_) fun h => ?_ | refine tV (fun h => ?_) fun h => ?_ | refine dqT ?_ | refine dqF ?_ | refine den_t rfl ?_ | refine den_f rfl ?_ | refine dqTn ?_ | refine dqFn ?_)
          exact den_again rfl rfl ha'
        · have hw := wordsL_at (k := o.kind) (by omega) ho2
          have ht : textOp o = (opNames[o.kind.toNat]?).getD [] := by with_unfolding_all exact if_neg h
          rw [ht] at ha' hto ⊢
          have hwl : wordsL.length = 14 := rfl
          repeat' (first | refine dq1 ?_ | refine dqc ?_ | refine dqm ?_ | refine den_let1 (dx_cat rfl rfl (by omega)) ?_ | exact den_ret rfl rfl | refine tR (fun h => ?_) fun h => ?_ | refine tB (fun h => ?_) fun h => ?_ | refine tC (fun h => ?_) fun h => ?_ | refine tN (fun h => ?_) fun h => ?_ | refine tF (fun h => ?_) fun h => ?_ | refine tG (fun h => ?_) fun h => ?_ | refine tP (fun h => ?_) fun h => ?_ | refine tQ (fun h => ?_) fun h => ?_ | refine tA (fun h => ?_) fun h => ?_ | refine tO (fun h => ?_) fun h => ?_ | refine tU (fun h => ?_) fun h => ?_ | refine tV (fun h => ?_) fun h => ?_ | refine dqT ?_ | refine dqF ?_ | refine den_t rfl ?_ | refine den_f rfl ?_ | refine dqTn ?_ | refine dqFn ?_)
          exact den_again rfl rfl ha'
      · rw [if_neg (by simpa using hk0)]
        have ha' := hag (a ++ [32] ++ textOp o) (by simp only [List.length_append, List.length_cons, List.length_nil]; omega)
        rw [hk1] at ha'
        repeat' (first | refine dq1 ?_ | refine dqc ?_ | refine dqm ?_ | exact den_ret rfl rfl | refine tR (fun h => ?_) fun h => ?_ | refine tB (fun h => ?_) fun h => ?_ | refine tC (fun h => ?_) fun h => ?_ | refine tN (fun h => ?_) fun h => ?_ | refine tF (fun h => ?_) fun h => ?_ | refine tG (fun h => ?_) fun h => ?_ | refine tP (fun h => ?_) fun h => ?_ | refine tQ (fun h => ?_) fun h => ?_ | refine tA (fun h => ?_) fun h => ?_ | refine tO (fun h => ?_) fun h => ?_ | refine tU (fun h => ?_) fun h => ?_ | refine tV (fun h => ?_) fun h => ?_ | refine dqT ?_ | refine dqF ?_ | refine den_t rfl ?_ | refine den_f rfl ?_ | refine dqTn ?_ | refine dqFn ?_)
        refine den_let1 (dx_cat rfl rfl (by simp only [List.length_cons, List.length_nil]; omega)) ?_
        have hal : (a ++ [32]).length ≤ 2000 := by simp only [List.length_append, List.length_cons, List.length_nil]; omega
        generalize a ++ [32] = a2 at *
        repeat' (first | refine dq1 ?_ | refine dqc ?_ | refine dqm ?_ | exact den_ret rfl rfl | refine tR (fun h => ?_) fun h => ?_ | refine tB (fun h => ?_) fun h => ?_ | refine tC (fun h => ?_) fun h => ?_ | refine tN (fun h => ?_) fun h => ?_ | refine tF (fun h => ?_) fun h => ?_ | refine tG (fun h => ?_) fun h => ?_ | refine tP (fun h => ?_) fun h => ?_ | refine tQ (fun h => ?_) fun h => ?_ | refine tA (fun h => ?_) fun h => ?_ | refine tO (fun h => ?_) fun h => ?_ | refine tU (fun h => ?_) fun h => ?_ | refine tV (fun h => ?_) fun h => ?_ | refine dqT ?_ | refine dqF ?_ | refine den_t rfl ?_ | refine den_f rfl ?_ | refine dqTn ?_ | refine dqFn ?_)
        refine den_sp rfl (fun h => ?_) (fun h => ?_)
        · have ht : textOp o = itoa o.n := by with_unfolding_all exact if_pos h
          rw [ht] at ha' hto ⊢
          repeat' (first | refine dq1 ?_ | refine dqc ?_ | refine dqm ?_ | refine dqk rfl (sp_itoa_at _) ?_ | refine dqK rfl (sp_itoa_at _) ?_ | refine den_let1 (dx_cat rfl rfl (by omega)) ?_ | exact den_ret rfl rfl | refine tR (fun h => ?_) fun h => ?_ | refine tB (fun h => ?_) fun h => ?_ | refine tC (fun h => ?_) fun h => ?_ | refine tN (fun h => ?_) fun h => ?_ | refine tF (fun h => ?_) fun h => ?_ | refine tG (fun h => ?_) fun h => ?_ | refine tP (fun h => ?_) fun h => ?_ | refine tQ (fun h => ?_) fun h => ?_ | refine tA (fun h => ?_) fun h => ?_ | refine tO (fun h => ?_) fun h => ?_ | refine tU (fun h => ?_) fun h => ?_ | refine tV (fun h => ?_) fun h => ?_ | refine dqT ?_ | refine dqF ?_ | refine den_t rfl ?_ | refine den_f rfl ?_ | refine dqTn ?_ | refine dqFn ?_)
          exact den_again rfl rfl ha'
        · have hw := wordsL_at (k := o.kind) (by omega) ho2
          have ht : textOp o = (opNames[o.kind.toNat]?).getD [] := by with_unfolding_all exact if_neg h
          rw [ht] at ha' hto ⊢
          have hwl : wordsL.length = 14 := rfl
          repeat' (first | refine dq1 ?_ | refine dqc ?_ | refine dqm ?_ | refine den_let1 (dx_cat rfl rfl (by omega)) ?_ | exact den_ret rfl rfl | refine tR (fun h => ?_) fun h => ?_ | refine tB (fun h => ?_) fun h => ?_ | refine tC (fun h => ?_) fun h => ?_ | refine tN (fun h => ?_) fun h => ?_ | refine tF (fun h => ?_) fun h => ?_ | refine tG (fun h => ?_) fun h => ?_ | refine tP (fun h => ?_) fun h => ?_ | refine tQ (fun h => ?_) fun h => ?_ | refine tA (fun h => ?_) fun h => ?_ | refine tO (fun h => ?_) fun h => ?_ | refine tU (fun h => ?_) fun h => ?_ | refine tV (fun h => ?_) fun h => ?_ | refine dqT ?_ | refine dqF ?_ | refine den_t rfl ?_ | refine den_f rfl ?_ | refine dqTn ?_ | refine dqFn ?_)
          exact den_again rfl rfl ha'
    · rintro a ha again
      have e0 : ∀ b : Bool, joinTail a b [] = a := fun b => by with_unfolding_all rfl
      simp only [List.map_nil, e0]
      repeat' (first | refine dq1 ?_ | refine dqc ?_ | refine dqm ?_ | exact den_ret rfl rfl | refine tR (fun h => ?_) fun h => ?_ | refine tB (fun h => ?_) fun h => ?_ | refine tC (fun h => ?_) fun h => ?_ | refine tN (fun h => ?_) fun h => ?_ | refine tF (fun h => ?_) fun h => ?_ | refine tG (fun h => ?_) fun h => ?_ | refine tP (fun h => ?_) fun h => ?_ | refine tQ (fun h => ?_) fun h => ?_ | refine tA (fun h => ?_) fun h => ?_ | refine tO (fun h => ?_) fun h => ?_ | refine tU (fun h => ?_) fun h => ?_ | refine tV (fun h => ?_) fun h => ?_ | refine dqT ?_ | refine dqF ?_ | refine den_t rfl ?_ | refine den_f rfl ?_ | refine dqTn ?_ | refine dqFn ?_)
def wholeI (w : List UInt8) : Int × Bool := ((atoiOf w).1, !(atoiOf w).2.is && decide (itoa (atoiOf w).1 = w))
noncomputable def sp_rWhole : Spec := spD (fun s : List UInt8 => s.length ≤ 1000000000) fun s => wholeI s
theorem sp_rWhole_at (s : List UInt8) (h : s.length ≤ 1000000000) : sp_rWhole [.s s] = some [I (wholeI s).1, .b (wholeI s).2] := spD_at (p := fun s : List UInt8 => s.length ≤ 1000000000) (f := fun s : List UInt8 => wholeI s) s h
attribute [local irreducible] sp_fmtInt sp_parseInt
theorem m_rWhole : Meets Tryz.prog sp_rWhole 87 ⟨[.one], [(false, [.scal]), (false, [.scal])], true⟩ := by
  refine meets_fast (sp := (spsOf [(43, sp_fmtInt), (44, sp_parseInt)])) (sigs := sigsA) (cut := []) (hints := []) (fn := Tryz.f87) (t := t_rWhole) (by kernel_rfl) (by kernel_rfl) (by kernel_rfl) ?_ ?_
  · exact (sig_of (L := [(43, sp_fmtInt), (44, sp_parseInt)]) ⟨sig_at rfl m_fmtInt, sig_at rfl m_parseInt, trivial⟩)
  · rintro ds rs - h
    obtain ⟨w, hw, rfl, rfl⟩ := spD_some h
    clear h
    refine ⟨⟨1, ?_⟩, scalOk_2 rfl rfl⟩
    show den _ _ t_rWhole [.s w] [] = ret (wholeI w)
    have a1 := sp_parseInt_at w hw
    unfold t_rWhole wholeI
    cases hi : (atoiOf w).2.is with
    | true =>
      rw [hi] at a1
      repeat' (first | refine dq1 ?_ | refine dqc ?_ | refine dqm ?_ | refine dqk rfl (a1) ?_ | refine dqK rfl (a1) ?_ | refine den_let1 (dx_ise rfl) ?_ | exact den_ret rfl rfl | refine tR (fun h => ?_) fun h => ?_ | refine tB (fun h => ?_) fun h => ?_ | refine tC (fun h => ?_) fun h => ?_ | refine tN (fun h => ?_) fun h => ?_ | refine tF (fun h => ?_) fun h => ?_ | refine tG (fun h => ?_) fun h => ?_ | refine tP (fun h => ?_) fun h => ?_ | refine tQ (fun h => ?_) fun h => ?_ | refine tA (fun h => ?_) fun h => ?_ | refine tO (fun h => ?_) fun h => ?_ | refine tU (fun h => ?_) fun h => ?_ | refine tV (fun h => ?_) fun h => ?_ | refine dqT ?_ | refine dqF ?_ | refine den_t rfl ?_ | refine den_f rfl ?_ | refine dqTn ?_ | refine dqFn ?_)
    | false =>
      rw [hi] at a1
      repeat' (first | refine dq1 ?_ | refine dqc ?_ | refine dqm ?_ | refine dqk rfl (a1) ?_ | refine dqK rfl (a1) ?_ | refine dqk rfl (sp_fmtInt_at _) ?_ | refine dqK rfl (sp_fmtInt_at _) ?_ | refine den_let1 (dx_ise rfl) ?_ | exact den_ret rfl rfl | refine tR (fun h => ?_) fun h => ?_ | refine tB (fun h => ?_) fun h => ?_ | refine tC (fun h => ?_) fun h => ?_ | refine tN (fun h => ?_) fun h => ?_ | refine tF (fun h => ?_) fun h => ?_ | refine tG (fun h => ?_) fun h => ?_ | refine tP (fun h => ?_) fun h => ?_ | refine tQ (fun h => ?_) fun h => ?_ | refine tA (fun h => ?_) fun h => ?_ | refine tO (fun h => ?_) fun h => ?_ | refine tU (fun h => ?_) fun h => ?_ | refine tV (fun h => ?_) fun h => ?_ | refine dqT ?_ | refine dqF ?_ | refine den_t rfl ?_ | refine den_f rfl ?_ | refine dqTn ?_ | refine dqFn ?_)
theorem kind_idx (w : List UInt8) : (2 ≤ idx wordsL w → idx wordsL w = kindOf w ∧ kindOf w ≠ 0) ∧ (¬ 2 ≤ idx wordsL w → kindOf w = 0) := by
  by_cases h : w ∈ opNames.drop 2
  · have key : ∀ w ∈ opNames.drop 2, 2 ≤ idx wordsL w ∧ idx wordsL w = kindOf w ∧ kindOf w ≠ 0 := by with_unfolding_all decide +kernel
    exact ⟨fun _ => (key w h).2, fun hn => absurd (key w h).1 hn⟩
  · have hk : kindOf w = 0 := by
      with_unfolding_all refine kindGo_none _ _ _ _ fun m hm hne e => ?_
      have hm' : m = [] ∨ m = [] ∨ m ∈ opNames.drop 2 := by
        have e2 : opNames = [] :: [] :: opNames.drop 2 := rfl
        rw [e2] at hm
        simpa using hm
      rcases hm' with rfl | rfl | hm'
      · exact hne rfl
      · exact hne rfl
      · exact h (e ▸ hm')
    refine ⟨fun hi => ?_, fun _ => hk⟩
    exfalso
    have hm : w ∈ wordsL := (idxGo_mem w wordsL 0).1 (by unfold idx at hi; omega)
    have hm' : w = [45] ∨ w = [45] ∨ w ∈ opNames.drop 2 := by
      simpa [wordsL] using hm
    rcases hm' with rfl | rfl | hm'
    · exact absurd hi (by decide)
    · exact absurd hi (by decide)
    · exact h hm'
theorem wholeI_of (w : List UInt8) : wholeOf w = if (wholeI w).2 = true then some (wholeI w).1 else none := by
  unfold wholeI
  cases hi : (atoiOf w).2.is with
  | true => rw [whole_none hi]; rfl
  | false =>
    rw [whole_some hi]
    by_cases h : itoa (atoiOf w).1 = w
    · rw [if_pos h, if_pos (by simpa using h)]
    · rw [if_neg h, if_neg (by simpa using h)]
noncomputable def sp_rReadOps : Spec := spD (fun s : List UInt8 => s.length ≤ 4000) fun s => readOf s
theorem sp_rReadOps_at (s : List UInt8) (h : s.length ≤ 4000) : sp_rReadOps [.s s] = some [.l 2 ((readOf s).1.map eOp), I (readOf s).2] := spD_at (p := fun s : List UInt8 => s.length ≤ 4000) (f := fun s : List UInt8 => readOf s) s h
attribute [local irreducible] wholeI wordOp
attribute [local irreducible] sp_idxStr sp_rCheckOps sp_strSplit
theorem m_rReadOps : Meets Tryz.prog sp_rReadOps 89 ⟨[.one], [(false, [.fresh 88 2]), (false, [.scal])], false⟩ := by
  refine meets_fast (sp := (spsOf [(25, sp_rCheckOps), (41, sp_strSplit), (45, sp_strFields), (54, sp_idxStr), (57, sp_rWhole)])) (sigs := sigsA) (cut := []) (hints := [⟨6, [.r 4 88 2, .r 2 88 2, .t 3, .t 18]⟩]) (fn := Tryz.f89) (t := t_rReadOps) (by kernel_rfl) (by kernel_rfl) (by kernel_rfl) ?_ ?_
  · exact (sig_of (L := [(25, sp_rCheckOps), (41, sp_strSplit), (45, sp_strFields), (54, sp_idxStr), (57, sp_rWhole)]) ⟨sig_at rfl m_rCheckOps, sig_at rfl m_strSplit, sig_at rfl m_strFields, sig_at rfl m_idxStr, sig_at rfl m_rWhole, trivial⟩)
  · rintro ds rs hok h
    obtain ⟨s, hs4, rfl, rfl⟩ := spD_some h
    clear h
    refine ⟨⟨s.length + 5, ?_⟩, ?_⟩
    · show den _ _ t_rReadOps [.s s] [] = ret (readOf s)
      rw [readOf_go, if_neg (by omega)]
      unfold t_rReadOps
      have a1 := sp_words
      have hcl := cutAt_len 32 s
      repeat' (first | refine dq1 ?_ | refine dqc ?_ | refine dqm ?_ | refine dqk rfl (a1) ?_ | refine dqK rfl (a1) ?_ | refine dqk rfl (sp_strSplit_at s 32 (by omega)) ?_ | refine dqK rfl (sp_strSplit_at s 32 (by omega)) ?_ | exact den_ret rfl rfl | refine tR (fun h => ?_) fun h => ?_ | refine tB (fun h => ?_) fun h => ?_ | refine tC (fun h => ?_) fun h => ?_ | refine tN (fun h => ?_) fun h => ?_ | refine tF (fun h => ?_) fun h => ?_ | refine tG (fun h => ?_) fun h => ?_ | refine tP (fun h => ?_) fun h => ?_ | refine tQ (fun h => ?_) fun h => ?_ | refine tA (fun h => ?_) fun h => ?_ | refine tO (fun h => ?_) fun h => ?_ | refine tU (fun h => ?_) fun h => ?_ | refine tV (fun h => ?_) fun h => ?_ | refine dqT ?_ | refine dqF ?_ | refine den_t rfl ?_ | refine den_f rfl ?_ | refine dqTn ?_ | refine dqFn ?_)
      (refine den_range (fun (a : List Op) k => [.l 2 (a.map eOp), .l 2 [], I 0, I k]) (fun (a : List Op) _ (r : List (List UInt8)) => readGo a r) (fun a k => a.length = k) [] (cutAt 32 s) ?_ ?_ ?_ ?_ ?_; rfl; exact rfl; omega)
      · rintro a k w r hx hd hk ha again hag
        have hw := hcl.2 w (List.mem_of_getElem? hx)
        rw [readGo_cons]
        have a2 := sp_idxStr_at wordsL w
        have a3 := sp_rWhole_at w (by omega)
        obtain ⟨ki1, ki2⟩ := kind_idx w
        have hwo := wholeI_of w
        generalize idx wordsL w = j at *
        generalize wholeI w = pw at *
        obtain ⟨n, b⟩ := pw
        try simp only at a3 hwo
        by_cases hj : 2 ≤ j
        · obtain ⟨hjk, hk0⟩ := ki1 hj
          rw [wordOp_kind hk0, ← hjk]
          simp only
          repeat' (first | refine dq1 ?_ | refine dqc ?_ | refine dqm ?_ | refine dqk rfl (a2) ?_ | refine dqK rfl (a2) ?_ | refine dqk rfl (a3) ?_ | refine dqK rfl (a3) ?_ | refine den_let1 (den_mk rfl rfl (by simp)) ?_ | refine den_let1 (dx_app1 (x := ⟨j, 0⟩) (fun _ => rfl) rfl rfl (by omega)) ?_ | exact den_ret rfl rfl | refine tR (fun h => ?_) fun h => ?_ | refine tB (fun h => ?_) fun h => ?_ | refine tC (fun h => ?_) fun h => ?_ | refine tN (fun h => ?_) fun h => ?_ | refine tF (fun h => ?_) fun h => ?_ | refine tG (fun h => ?_) fun h => ?_ | refine tP (fun h => ?_) fun h => ?_ | refine tQ (fun h => ?_) fun h => ?_ | refine tA (fun h => ?_) fun h => ?_ | refine tO (fun h => ?_) fun h => ?_ | refine tU (fun h => ?_) fun h => ?_ | refine tV (fun h => ?_) fun h => ?_ | refine dqT ?_ | refine dqF ?_ | refine den_t rfl ?_ | refine den_f rfl ?_ | refine dqTn ?_ | refine dqFn ?_)
          exact den_again rfl rfl (hag (a ++ [⟨j, 0⟩]) (by rw [List.length_append, ha]; rfl))
        · rw [wordOp_zero (ki2 hj), hwo]
          cases b with
          | true =>
            simp only [if_true, Option.map_some]
            repeat' (first | refine dq1 ?_ | refine dqc ?_ | refine dqm ?_ | refine dqk rfl (a2) ?_ | refine dqK rfl (a2) ?_ | refine dqk rfl (a3) ?_ | refine dqK rfl (a3) ?_ | refine den_let1 (den_mk rfl rfl (by simp)) ?_ | refine den_let1 (dx_app1 (x := ⟨1, n⟩) (fun _ => rfl) rfl rfl (by omega)) ?_ | exact den_ret rfl rfl | refine tR (fun h => ?_) fun h => ?_ | refine tB (fun h => ?_) fun h => ?_ | refine tC (fun h => ?_) fun h => ?_ | refine tN (fun h => ?_) fun h => ?_ | refine tF (fun h => ?_) fun h => ?_ | refine tG (fun h => ?_) fun h => ?_ | refine tP (fun h => ?_) fun h => ?_ | refine tQ (fun h => ?_) fun h => ?_ | refine tA (fun h => ?_) fun h => ?_ | refine tO (fun h => ?_) fun h => ?_ | refine tU (fun h => ?_) fun h => ?_ | refine tV (fun h => ?_) fun h => ?_ | refine dqT ?_ | refine dqF ?_ | refine den_t rfl ?_ | refine den_f rfl ?_ | refine dqTn ?_ | refine dqFn ?_)
            exact den_again rfl rfl (hag (a ++ [⟨1, n⟩]) (by rw [List.length_append, ha]; rfl))
          | false =>
            simp only [Bool.false_eq_true, if_false, Option.map_none]
            repeat' (first | refine dq1 ?_ | refine dqc ?_ | refine dqm ?_ | refine dqk rfl (a2) ?_ | refine dqK rfl (a2) ?_ | refine dqk rfl (a3) ?_ | refine dqK rfl (a3) ?_ | exact den_ret rfl rfl | refine tR (fun h => ?_) fun h => ?_ | refine tB (fun h => ?_) fun h => ?_ | refine tC (fun h => ?_) fun h => ?_ | refine tN (fun h => ?_) fun h => ?_ | refine tF (fun h => ?_) fun h => ?_ | refine tG (fun h => ?_) fun h => ?_ | refine tP (fun h => ?_) fun h => ?_ | refine tQ (fun h => ?_) fun h => ?_ | refine tA (fun h => ?_) fun h => ?_ | refine tO (fun h => ?_) fun h => ?_ | refine tU (fun h => ?_) fun h => ?_ | refine tV (fun h => ?_) fun h => ?_ | refine dqT ?_ | refine dqF ?_ | refine den_t rfl ?_ | refine den_f rfl ?_ | refine dqTn ?_ | refine dqFn ?_)
      · rintro a ha again
        rw [readGo_nil]
        repeat' (first | refine dq1 ?_ | refine dqc ?_ | refine dqm ?_ | refine dqk rfl (sp_rCheckOps_at _) ?_ | refine dqK rfl (sp_rCheckOps_at _) ?_ | exact den_ret rfl rfl | refine tR (fun h => ?_) fun h => ?_ | refine tB (fun h => ?_) fun h => ?_ | refine tC (fun h => ?_) fun h => ?_ | refine tN (fun h => ?_) fun h => ?_ | refine tF (fun h => ?_) fun h => ?_ | refine tG (fun h => ?_) fun h => ?_ | refine tP (fun h => ?_) fun h => ?_ | refine tQ (fun h => ?_) fun h => ?_ | refine tA (fun h => ?_) fun h => ?_ | refine tO (fun h => ?_) fun h => ?_ | refine tU (fun h => ?_) fun h => ?_ | refine tV (fun h => ?_) fun h => ?_ | refine dqT ?_ | refine dqF ?_ | refine den_t rfl ?_ | refine den_f rfl ?_ | refine dqTn ?_ | refine dqFn ?_)
    · intro i d hi hd
      match i, hi, hd with
      | 0, hi, _ => simp [cfsOf] at hi
      | 1, _, hd => simp only [Enc.e, eInt, List.cons_append, List.nil_append, List.getElem?_cons_zero, List.getElem?_cons_succ, Option.some.injEq] at hd; subst hd; rfl
      | i + 2, hi, hd => simp [cfsOf] at hi
end Go.Proofs.YtnklncinjahckaaGreatDoor
namespace Go.Proofs.YtnklncinjahckaaGreatDoor
open Go.Lib (itoa atoiAll)
open Go.RowKit
set_option linter.unusedVariables false
set_option linter.unusedSimpArgs false
theorem indexByte_one (c : UInt8) : ∀ s : List UInt8, Go.Lib.indexByte s c = Go.Lib.index s [c]
  | [] => rfl
  | b :: l => by
    rw [Go.Lib.indexByte, Go.Lib.index, indexByte_one c l]
    have e : List.isPrefixOf [c] (b :: l) = (b == c) := by
      simp only [List.isPrefixOf, Bool.and_true]
      exact Bool.beq_comm
    rw [e]
theorem cut_none {c : UInt8} {s : List UInt8} (h : Go.Lib.indexByte s c < 0) : Go.Lib.contains s [c] = false := by
  unfold Go.Lib.contains
  rw [← indexByte_one]
  simp; omega
theorem cut_some {c : UInt8} {s : List UInt8} (h : ¬ Go.Lib.indexByte s c < 0) : Go.Lib.contains s [c] = true ∧ Go.Lib.cut s [c] = (s.take (Go.Lib.indexByte s c).toNat, s.drop ((Go.Lib.indexByte s c).toNat + 1), true) := by
  rw [indexByte_one] at h ⊢
  unfold Go.Lib.contains Go.Lib.cut
  rw [if_pos (by omega)]
  exact ⟨by simp; omega, rfl⟩
def docWords (o : List Out) (i : List In) (w : List (List UInt8)) (l : List Op) : Option (List Out × List In) :=
  if w.headD [] = tIn ∧ w.length = 3 then (match wholeOf (w.getD 1 []), wholeOf (w.getD 2 []) with
    | some a, some b => if 0 < o.length then none else some (o, i ++ [⟨⟨a, b⟩, l⟩])
    | _, _ => none) else
  if w.headD [] = tOut ∧ w.length = 2 then (match wholeOf (w.getD 1 []) with
    | some a => some (o ++ [⟨a, l⟩], i)
    | none => none) else none
def docLine (o : List Out) (i : List In) (x : List UInt8) : Option (List Out × List In) :=
  if Go.Lib.indexByte x 58 < 0 then none else
  if (readOf (x.drop ((Go.Lib.indexByte x 58).toNat + 1))).2 ≠ 0 then none else
  docWords o i (cutAt 32 (x.take (Go.Lib.indexByte x 58).toNat)) (readOf (x.drop ((Go.Lib.indexByte x 58).toNat + 1))).1
theorem numsOf_len : ∀ {ws : List (List UInt8)} {n : List Int}, numsOf ws = some n → n.length = ws.length
  | [], n, h => by injection h with h; subst h; rfl
  | w :: r, n, h => by
    rw [numsOf] at h
    split at h
    · cases h
    · obtain ⟨m, hm, rfl⟩ := Option.map_eq_some_iff.1 h
      simp [numsOf_len hm]
theorem words_eq (o : List Out) (i : List In) {v0 : List UInt8} {vs : List (List UInt8)} (l : List Op) : docWords o i (v0 :: vs) l = match numsOf vs with
  | none => none
  | some n => if v0 = tIn ∧ n.length = 2 ∧ o.length = 0 then some (o, i ++ [⟨⟨n.getD 0 0, n.getD 1 0⟩, l⟩]) else if v0 = tOut ∧ n.length = 1 then some (o ++ [⟨n.getD 0 0, l⟩], i) else none := by
  have e0 : docWords o i (v0 :: vs) l = if v0 = tIn ∧ vs.length + 1 = 3 then (match wholeOf ((v0 :: vs).getD 1 []), wholeOf ((v0 :: vs).getD 2 []) with
    | some a, some b => if 0 < o.length then none else some (o, i ++ [⟨⟨a, b⟩, l⟩])
    | _, _ => none) else
    if v0 = tOut ∧ vs.length + 1 = 2 then (match wholeOf ((v0 :: vs).getD 1 []) with
    | some a => some (o ++ [⟨a, l⟩], i)
    | none => none) else none := rfl
  rw [e0]
  by_cases h1 : v0 = tIn ∧ vs.length + 1 = 3
  · rw [if_pos h1]
    obtain ⟨rfl, h2⟩ := h1
    match vs, h2 with
    | [a, b], _ =>
      have g1 : (tIn :: [a, b]).getD 1 [] = a := rfl
      have g2 : (tIn :: [a, b]).getD 2 [] = b := rfl
      rw [g1, g2]
      cases ha : wholeOf a with
      | none => simp [numsOf, ha]
      | some n =>
        cases hb : wholeOf b with
        | none => simp [numsOf, ha, hb]
        | some m =>
          have e : numsOf [a, b] = some [n, m] := by simp [numsOf, ha, hb]
          rw [e]
          show (if 0 < o.length then none else some (o, i ++ [⟨⟨n, m⟩, l⟩])) = if tIn = tIn ∧ [n, m].length = 2 ∧ o.length = 0 then some (o, i ++ [⟨⟨n, m⟩, l⟩]) else if tIn = tOut ∧ [n, m].length = 1 then some (o ++ [⟨n, l⟩], i) else none
          by_cases ho : 0 < o.length
          · rw [if_pos ho, if_neg (fun h => by omega), if_neg (fun h => by simp at h)]
          · rw [if_neg ho, if_pos ⟨rfl, rfl, by omega⟩]
  · rw [if_neg h1]
    by_cases h3 : v0 = tOut ∧ vs.length + 1 = 2
    · rw [if_pos h3]
      obtain ⟨rfl, h2⟩ := h3
      match vs, h2 with
      | [a], _ =>
        have g1 : (tOut :: [a]).getD 1 [] = a := rfl
        rw [g1]
        cases ha : wholeOf a with
        | none => simp [numsOf, ha]
        | some n =>
          have e : numsOf [a] = some [n] := by simp [numsOf, ha]
          rw [e]
          show some (o ++ [⟨n, l⟩], i) = if tOut = tIn ∧ [n].length = 2 ∧ o.length = 0 then some (o, i ++ [⟨⟨n, 0⟩, l⟩]) else if tOut = tOut ∧ [n].length = 1 then some (o ++ [⟨n, l⟩], i) else none
          rw [if_neg (fun h => by simp at h), if_pos ⟨rfl, rfl⟩]
    · rw [if_neg h3]
      cases hn : numsOf vs with
      | none => rfl
      | some n =>
        have hl := numsOf_len hn
        simp only
        rw [if_neg (fun h => h1 ⟨h.1, by omega⟩), if_neg (fun h => h3 ⟨h.1, by omega⟩)]
theorem docLine_eq (o : List Out) (i : List In) (x : List UInt8) : docLine o i x = lineStep o i x := by
  unfold docLine lineStep
  by_cases h1 : Go.Lib.indexByte x 58 < 0
  · rw [if_pos h1]
    have h2 := cut_none h1
    split
    · rfl
    · unfold lineEnd
      rw [h2]
      split
      · rfl
      · rw [if_pos rfl]
  · rw [if_neg h1]
    obtain ⟨h2, h3⟩ := cut_some h1
    have hne := cutAt_ne 32 (x.take (Go.Lib.indexByte x 58).toNat)
    rw [h3]
    simp only
    cases hv : cutAt 32 (x.take (Go.Lib.indexByte x 58).toNat) with
    | nil => exact absurd hv hne
    | cons v0 vs =>
      rw [words_eq]
      simp only [List.drop_succ_cons, List.drop_zero]
      cases hn : numsOf vs with
      | none => split <;> rfl
      | some n =>
        simp only
        unfold lineEnd
        rw [h3, h2]
        simp only
        rw [hv]
        by_cases h4 : (readOf (x.drop ((Go.Lib.indexByte x 58).toNat + 1))).2 ≠ 0
        · rw [if_pos h4, if_pos h4]
        · rw [if_neg h4, if_neg h4]
          exact (if_neg (fun h => by cases h)).symm
theorem cut_snoc (c : UInt8) : ∀ r : List UInt8, cutAt c (r ++ [c]) = cutAt c r ++ [[]]
  | [] => by simp [cutAt]
  | b :: r => by
    have ih := cut_snoc c r
    rw [List.cons_append, cutAt, cutAt, ih]
    cases hc : cutAt c r with
    | nil => exact absurd hc (cutAt_ne c r)
    | cons w ws => split <;> simp
theorem last_nl (s : List UInt8) : (2 ≤ (cutAt 10 s).length ∧ (cutAt 10 s).getLastD [] = []) ↔ Go.Lib.hasSuffix s [10] = true := by
  constructor
  · rintro ⟨h1, h2⟩
    have hj := joinC_cut 10 s
    obtain ⟨ws, w, hw⟩ : ∃ ws w, cutAt 10 s = ws ++ [w] := by
      rcases List.eq_nil_or_concat (cutAt 10 s) with h | ⟨ws, w, h⟩
      · exact absurd h (cutAt_ne 10 s)
      · exact ⟨ws, w, by simpa using h⟩
    rw [hw] at h1 h2 hj
    simp at h2
    subst h2
    have key : ∀ ws : List (List UInt8), 1 ≤ ws.length → ∃ r, joinC 10 (ws ++ [[]]) = r ++ [10] := by
      intro ws
      induction ws with
      | nil => intro h; simp at h
      | cons x r ih =>
        intro _
        cases r with
        | nil => exact ⟨x, by simp [joinC]⟩
        | cons y r =>
          obtain ⟨q, hq⟩ := ih (by simp)
          refine ⟨x ++ 10 :: q, ?_⟩
          simp only [List.cons_append, joinC] at hq ⊢
          rw [hq]
          simp
    obtain ⟨r, hr⟩ := key ws (by simp at h1; omega)
    rw [← hj, hr]
    exact suffix_here r 10
  · intro h
    unfold Go.Lib.hasSuffix at h
    rw [List.isSuffixOf_iff_suffix] at h
    obtain ⟨r, rfl⟩ := h
    rw [cut_snoc]
    have := List.length_pos_iff.2 (cutAt_ne 10 r)
    exact ⟨by simp; omega, by simp⟩
theorem lines_of {s : List UInt8} (h : Go.Lib.hasSuffix s [10] = true) : cutAt 10 s = cutAt 10 (Go.Lib.trimSuffix s [10]) ++ [[]] := by
  have h' := h
  unfold Go.Lib.hasSuffix at h'
  rw [List.isSuffixOf_iff_suffix] at h'
  obtain ⟨r, rfl⟩ := h'
  rw [trim_here, cut_snoc]
end Go.Proofs.YtnklncinjahckaaGreatDoor
namespace Go.Proofs.YtnklncinjahckaaGreatDoor
open Go.RowKit
open Go.Lib (itoa)
set_option linter.unusedVariables false
set_option linter.unusedSimpArgs false
set_option maxRecDepth 100000
set_option maxHeartbeats 4000000
noncomputable def sp_rCheckTx : Spec := spD (fun _ : Tx => True) fun t => txCheck t
theorem sp_rCheckTx_at (t : Tx) : sp_rCheckTx [I t.height, .l 3 (t.ins.map eIn), .l 2 (t.outs.map eOut)] = some [I (txCheck t)] := spD_at (f := fun t : Tx => txCheck t) t trivial
theorem m_rCheckTx : Meets Tryz.prog sp_rCheckTx 23 ⟨[.agg 3], [(false, [.scal])], true⟩ :=
  meets_libI rfl (en_of (fn := Tryz.f23) (by kernel_rfl) (by kernel_rfl) (by kernel_rfl)) fun t _ W F us hF h => by
    obtain ⟨cs, rfl, hr⟩ := pks_agg' h
    have hS : Sep W F [rep t cs shTx] W := (Sep.start W F hF.1).addRep (S := shTx) (shTx.more (fun b hb => ⟨.inl hb, by simp⟩) (she_tx.of hr))
    exact ⟨(er_tx t).i64, (refTx_c t cs hS At.z).mono fun e w' h => ⟨h.1, h.2.below⟩⟩
noncomputable def sp_rSameTx : Spec := spD (fun _ : Tx × Tx => True) fun x => decide (x.1 = x.2)
theorem sp_rSameTx_at (x y : Tx) : sp_rSameTx (eTx x ++ eTx y) = some [.b (decide (x = y))] := spD_at (f := fun x : Tx × Tx => decide (x.1 = x.2)) (x, y) trivial
theorem m_rSameTx : Meets Tryz.prog sp_rSameTx 27 ⟨[.agg 3, .agg 3], [(false, [.scal])], true⟩ :=
  meets_libB rfl (en_of (fn := Tryz.f27) (by kernel_rfl) (by kernel_rfl) (by kernel_rfl)) fun x _ W F us hF h => by
    obtain ⟨c1, us, rfl, r1, h⟩ := pks_agg (d1 := eTx x.1) (d2 := eTx x.2) h rfl
    obtain ⟨c2, rfl, r2⟩ := pks_agg' h
    have hS : Sep W F [rep x.1 c1 shTx] W := (Sep.start W F hF.1).addRep (S := shTx) (shTx.more (fun b hb => ⟨.inl hb, by simp⟩) (she_tx.of r1))
    have hS2 : Sep W F [rep x.2 c2 shTx, rep x.1 c1 shTx] W := hS.addRep (S := shTx) (shTx.more (fun b hb => ⟨.inl hb, fun q hq => by rcases List.mem_cons.1 hq with rfl | hq; exact (by simp [rep, fact]); cases hq⟩) (she_tx.of r2))
    exact (refSameTx_c x.1 x.2 c1 c2 hS2 (At.s At.z) At.z).mono fun e w' h => ⟨h.1, h.2.below⟩
attribute [local irreducible] specOf spD ordP itoa opsCheck openOf joinC sp_lockNames readGo atoiOf cutAt kindGo kindOf txCheck readOf
attribute [local irreducible] den denX denXs holdXs
theorem inLine_ops {x : In} (h : opsCheck x.key = 0) : inLine x = [105, 110, 32] ++ itoa x.p.tx ++ [32] ++ itoa x.p.at_ ++ [58] ++ opsText x.key ++ [10] := by
  unfold inLine printOf
  rw [if_neg (fun k => k h)]
theorem outLine_ops {x : Out} (h : opsCheck x.lock = 0) : outLine x = [111, 117, 116, 32] ++ itoa x.coin ++ [58] ++ opsText x.lock ++ [10] := by
  unfold outLine printOf
  rw [if_neg (fun k => k h)]
noncomputable def sp_rTxText : Spec := spD (fun t : Tx => txCheck t = 0) fun t => txText t
theorem sp_rTxText_at (t : Tx) (h : txCheck t = 0) : sp_rTxText [I t.height, .l 3 (t.ins.map eIn), .l 2 (t.outs.map eOut)] = some [.s (txText t)] := spD_at (p := fun t : Tx => txCheck t = 0) (f := fun t : Tx => txText t) t h
def t_rTxText_0 : T :=
  .lets [.bin .add (.v 18) (.v 19)] [] (.lets [.bin .add (.v 20) (.c (.s [10]))] [] (.lets [.bin .add (.v 7) (.v 21)] [] (.lets [.bin .add (.v 8) (.c (.i .i64 1))] [] (.again 0 [.v
  22, .v 23]))))
def t_rTxText_1 : T :=
  .lets [.bin .add (.v 14) (.c (.s [32]))] [] (.lets [.call 37 [.v 11] 0] [] (.lets [.bin .add (.v 15) (.v 16)] [] (.lets [.bin .add (.v 17) (.c (.s [58]))] [] (.lets [.call 56 [.v
  12] 0] [] t_rTxText_0))))
def t_rTxText_2 : T :=
  .lets [.idx (.v 1) (.v 8) 0, .idx (.v 1) (.v 8) 1, .idx (.v 1) (.v 8) 2] [] (.lets [.call 37 [.v 10] 0] [] (.lets [.bin .add (.c (.s [105, 110, 32])) (.v 13)] [] t_rTxText_1))
def t_rTxText_3 : T :=
  .lets [.bin .add (.v 18) (.v 19)] [] (.lets [.bin .add (.v 20) (.c (.s [10]))] [] (.lets [.bin .add (.v 11) (.v 21)] [] (.lets [.bin .add (.v 12) (.c (.i .i64 1))] [] (.again 1 [.v
  22, .v 23]))))
def t_rTxText_4 : T :=
  .lets [.call 37 [.v 14] 0] [] (.lets [.bin .add (.c (.s [111, 117, 116, 32])) (.v 16)] [] (.lets [.bin .add (.v 17) (.c (.s [58]))] [] (.lets [.call 56 [.v 15] 0] [] t_rTxText_3)))
def t_rTxText_5 : T :=
  .lets [.bin .lss (.v 12) (.v 10)] [] (.ite (.v 13) (.lets [] [.inr 2 (.v 2) (.v 12)] (.lets [.idx (.v 2) (.v 12) 0, .idx (.v 2) (.v 12) 1] [] t_rTxText_4)) (.ret [.v 11]))
def t_rTxText_6 : T :=
  .lets [.bin .lss (.v 8) (.v 6)] [] (.ite (.v 9) (.lets [] [.inr 3 (.v 1) (.v 8)] t_rTxText_2) (.lets [.len (.v 2)] [] (.loop [.v 7, .c (.i .i64 0)] t_rTxText_5)))
def t_rTxText_7 : T :=
  .lets [.bin .add (.c (.s [116, 120, 32])) (.v 3)] [] (.lets [.bin .add (.v 4) (.c (.s [10]))] [] (.lets [.len (.v 1)] [] (.loop [.v 5, .c (.i .i64 0)] t_rTxText_6)))
def t_rTxText : T :=
  .lets [.call 37 [.v 0] 0] [] t_rTxText_7
attribute [local irreducible] sp_itoa sp_rOpsText
theorem m_rTxText : Meets Tryz.prog sp_rTxText 28 ⟨[.agg 3], [(false, [.scal])], true⟩ := by
  refine meets_fast (sp := (spsOf [(37, sp_itoa), (56, sp_rOpsText)])) (sigs := sigsA) (cut := []) (hints := [⟨3, [.t 3, .t 16]⟩, ⟨8, [.t 3, .t 43]⟩]) (fn := Tryz.f28) (t := t_rTxText) (by kernel_rfl) (by kernel_rfl) (by kernel_rfl) ?_ ?_
  · exact (sig_of (L := [(37, sp_itoa), (56, sp_rOpsText)]) ⟨sig_at rfl m_itoa, sig_at rfl m_rOpsText, trivial⟩)
  · rintro ds rs - h
    obtain ⟨t, ht, rfl, rfl⟩ := spD_some h
    clear h
    refine ⟨⟨20, ?_⟩, scalOk_1 rfl⟩
    show den _ _ t_rTxText [I t.height, .l 3 (t.ins.map eIn), .l 2 (t.outs.map eOut)] [] = ret (txHeadT t ++ t.ins.flatMap inLine ++ t.outs.flatMap outLine)
    have ok := txCheck_ok ht
    have h0 := txHead_height ok.head
    have lh := itoa_le (n := t.height) (by omega) (by omega)
    have hn1 := ok.ins
    have hn2 := ok.outs
    have lhh : (txHeadT t).length ≤ 24 := by simp only [txHeadT, List.length_append, List.length_cons, List.length_nil]; omega
    unfold t_rTxText
    repeat' (first | refine dq1 ?_ | refine dqc ?_ | refine dqm ?_ | refine dqk rfl (sp_itoa_at _) ?_ | refine dqK rfl (sp_itoa_at _) ?_ | refine den_let1 (dx_cat rfl rfl (by simp only [List.length_append, List.length_cons, List.length_nil]; omega)) ?_ | exact den_ret rfl rfl | refine tR (fun h => ?_) fun h => ?_ | refine tB (fun h => ?_) fun h => ?_ | refine tC (fun h => ?_) fun h => ?_ | refine tN (fun h => ?_) fun h => ?_ | refine tF (fun h => ?_) fun h => ?_ | refine tG (fun h => ?_) fun h => ?_ | refine tP (fun h => ?_) fun h => ?_ | refine tQ (fun h => ?_) fun h => ?_ | refine tA (fun h => ?_) fun h => ?_ | refine tO (fun h => ?_) fun h => ?_ | refine tU (fun h => ?_) fun h => ?_ | refine tV (fun h => ?_) fun h => ?_ | refine dqT ?_ | refine dqF ?_ | refine den_t rfl ?_ | refine den_f rfl ?_ | refine dqTn ?_ | refine dqFn ?_)
    (refine den_range (fun (a : List UInt8) k => [.s a, I k]) (fun (a : List UInt8) _ (r : List In) => a ++ r.flatMap inLine ++ t.outs.flatMap outLine) (fun a k => a.length ≤ 24 + 200 * k) (txHeadT t) t.ins ?_ ?_ ?_ ?_ ?_; rfl; exact (by omega); omega)
    · rintro a k x r hx hd hk ha again hag
      have hxb := insGo_ok ok.insOk x (List.mem_of_getElem? hx)
      obtain ⟨b1, b2, b3, b4, b5⟩ := inBad_ok hxb
      have il := inLine_le hxb
      have l1 := itoa_le (n := x.p.tx) (by omega) (by omega)
      have l2 := itoa_le (n := x.p.at_) (by omega) (by omega)
      have ol := opsText_len b5
      have a3 := sp_rOpsText_at x.key b5
      have hag' := hag (a ++ inLine x) (by rw [List.length_append]; omega)
      have e : a ++ (x :: r).flatMap inLine = (a ++ inLine x) ++ r.flatMap inLine := by simp
      rw [e]
      rw [inLine_ops b5] at hag' ⊢
      clear hag e il
      repeat' (first | refine dq1 ?_ | refine dqc ?_ | refine dqm ?_ | refine dqk rfl (sp_itoa_at _) ?_ | refine dqK rfl (sp_itoa_at _) ?_ | refine dqk rfl (a3) ?_ | refine dqK rfl (a3) ?_ | refine den_let1 (dx_cat rfl rfl (by simp only [List.length_append, List.length_cons, List.length_nil]; omega)) ?_ | exact den_ret rfl rfl | refine tR (fun h => ?_) fun h => ?_ | refine tB (fun h => ?_) fun h => ?_ | refine tC (fun h => ?_) fun h => ?_ | refine tN (fun h => ?_) fun h => ?_ | refine tF (fun h => ?_) fun h => ?_ | refine tG (fun h => ?_) fun h => ?_ | refine tP (fun h => ?_) fun h => ?_ | refine tQ (fun h => ?_) fun h => ?_ | refine tA (fun h => ?_) fun h => ?_ | refine tO (fun h => ?_) fun h => ?_ | refine tU (fun h => ?_) fun h => ?_ | refine tV (fun h => ?_) fun h => ?_ | refine dqT ?_ | refine dqF ?_ | refine den_t rfl ?_ | refine den_f rfl ?_ | refine dqTn ?_ | refine dqFn ?_)
      exact den_again rfl rfl hag'
    · rintro a ha again
      simp only [List.flatMap_nil, List.append_nil]
      repeat' (first | refine dq1 ?_ | refine dqc ?_ | refine dqm ?_ | exact den_ret rfl rfl | refine tR (fun h => ?_) fun h => ?_ | refine tB (fun h => ?_) fun h => ?_ | refine tC (fun h => ?_) fun h => ?_ | refine tN (fun h => ?_) fun h => ?_ | refine tF (fun h => ?_) fun h => ?_ | refine tG (fun h => ?_) fun h => ?_ | refine tP (fun h => ?_) fun h => ?_ | refine tQ (fun h => ?_) fun h => ?_ | refine tA (fun h => ?_) fun h => ?_ | refine tO (fun h => ?_) fun h => ?_ | refine tU (fun h => ?_) fun h => ?_ | refine tV (fun h => ?_) fun h => ?_ | refine dqT ?_ | refine dqF ?_ | refine den_t rfl ?_ | refine den_f rfl ?_ | refine dqTn ?_ | refine dqFn ?_)
      (refine den_range (fun (b : List UInt8) k => [.s b, I k]) (fun (b : List UInt8) _ (r : List Out) => b ++ r.flatMap outLine) (fun b k => b.length ≤ a.length + 200 * k) a t.outs ?_ ?_ ?_ ?_ ?_; rfl; exact (by omega); omega)
      · rintro b k x r hx hd hk hb again' hag
        obtain ⟨b1, b2, b5⟩ := ok.good x (List.mem_of_getElem? hx)
        have il := outLine_le b1 b2
        have l1 := itoa_le (n := x.coin) (by omega) (by omega)
        have ol := opsText_len b5
        have a3 := sp_rOpsText_at x.lock b5
        have hag' := hag (b ++ outLine x) (by rw [List.length_append]; omega)
        have e : b ++ (x :: r).flatMap outLine = (b ++ outLine x) ++ r.flatMap outLine := by simp
        rw [e]
        rw [outLine_ops b5] at hag' ⊢
        clear hag e il
        repeat' (first | refine dq1 ?_ | refine dqc ?_ | refine dqm ?_ | refine dqk rfl (sp_itoa_at _) ?_ | refine dqK rfl (sp_itoa_at _) ?_ | refine dqk rfl (a3) ?_ | refine dqK rfl (a3) ?_ | refine den_let1 (dx_cat rfl rfl (by simp only [List.length_append, List.length_cons, List.length_nil]; omega)) ?_ | exact den_ret rfl rfl | refine tR (fun h => ?_) fun h => ?_ | refine tB (fun h => ?_) fun h => ?_ | refine tC (fun h => ?_) fun h => ?_ | refine tN (fun h => ?_) fun h => ?_ | refine tF (fun h => ?_) fun h => ?_ | refine tG (fun h => ?_) fun h => ?_ | refine tP (fun h => ?_) fun h => ?_ | refine tQ (fun h => ?_) fun h => ?_ | refine tA (fun h => ?_) fun h => ?_ | refine tO (fun h => ?_) fun h => ?_ | refine tU (fun h => ?_) fun h => ?_ | refine tV (fun h => ?_) fun h => ?_ | refine dqT ?_ | refine dqF ?_ | refine den_t rfl ?_ | refine den_f rfl ?_ | refine dqTn ?_ | refine dqFn ?_)
        exact den_again rfl rfl hag'
      · rintro b hb again'
        simp only [List.flatMap_nil, List.append_nil]
        repeat' (first | refine dq1 ?_ | refine dqc ?_ | refine dqm ?_ | exact den_ret rfl rfl | refine tR (fun h => ?_) fun h => ?_ | refine tB (fun h => ?_) fun h => ?_ | refine tC (fun h => ?_) fun h => ?_ | refine tN (fun h => ?_) fun h => ?_ | refine tF (fun h => ?_) fun h => ?_ | refine tG (fun h => ?_) fun h => ?_ | refine tP (fun h => ?_) fun h => ?_ | refine tQ (fun h => ?_) fun h => ?_ | refine tA (fun h => ?_) fun h => ?_ | refine tO (fun h => ?_) fun h => ?_ | refine tU (fun h => ?_) fun h => ?_ | refine tV (fun h => ?_) fun h => ?_ | refine dqT ?_ | refine dqF ?_ | refine den_t rfl ?_ | refine den_f rfl ?_ | refine dqTn ?_ | refine dqFn ?_)
def docGo (k : Nat) (n : Int) (o : List Out) (i : List In) (r : List (List UInt8)) : Tx × Int := if k = 0 then (match r with
  | [] => linesGo n o i []
  | x :: r => if Go.Lib.hasPrefix x tTx = false then (zTx, 1) else if (wholeI (x.drop 3)).2 = false then (zTx, 1) else linesGo (wholeI (x.drop 3)).1 o i r) else linesGo n o i r
theorem docLine_end (n : Int) (r : List (List UInt8)) (o : List Out) (i : List In) (x : List UInt8) {v0 : List UInt8} {vs : List (List UInt8)} {l : List Op} {e j : Int} (hj : Go.Lib.indexByte x 58 = j) (hv : cutAt 32 (x.take j.toNat) = v0 :: vs) (hr : readOf (x.drop (j + 1).toNat) = (l, e)) : linesGo n o i (x :: r) =
  if j < 0 then (zTx, 1) else if e ≠ 0 then (zTx, 1) else finish n r (docWords o i (v0 :: vs) l) := by
  have e1 : linesGo n o i (x :: r) = finish n r (docLine o i x) := by rw [linesGo, docLine_eq]; rfl
  rw [e1]
  unfold docLine
  rw [hj]
  by_cases h1 : j < 0
  · rw [if_pos h1, if_pos h1]; rfl
  rw [if_neg h1, if_neg h1, show j.toNat + 1 = (j + 1).toNat by omega, hr, hv]
  by_cases h2 : e ≠ 0
  · rw [if_pos h2, if_pos h2]; rfl
  · rw [if_neg h2, if_neg h2]
theorem words_in (n : Int) (r : List (List UInt8)) (o : List Out) (i : List In) (a b : List UInt8) (l : List Op) : finish n r (docWords o i [tIn, a, b] l) = if (wholeI a).2 = false then (zTx, 1) else if (wholeI b).2 = false then (zTx, 1) else if (0 : Int) < (o.length : Int) then (zTx, 1) else linesGo n o (i ++ [⟨⟨(wholeI a).1, (wholeI b).1⟩, l⟩]) r := by
  have e : docWords o i [tIn, a, b] l = match wholeOf a, wholeOf b with
    | some a, some b => if 0 < o.length then none else some (o, i ++ [⟨⟨a, b⟩, l⟩])
    | _, _ => none := if_pos ⟨rfl, rfl⟩
  rw [e, wholeI_of a, wholeI_of b]
  cases (wholeI a).2 <;> cases (wholeI b).2
  · rfl
  · rfl
  · rfl
  · simp only [if_true, Bool.true_eq_false, if_false]
    by_cases h : 0 < o.length
    · rw [if_pos h, if_pos (by omega)]; rfl
    · rw [if_neg h, if_neg (by omega)]; rfl
theorem words_out (n : Int) (r : List (List UInt8)) (o : List Out) (i : List In) (a : List UInt8) (l : List Op) : finish n r (docWords o i [tOut, a] l) = if (wholeI a).2 = false then (zTx, 1) else linesGo n (o ++ [⟨(wholeI a).1, l⟩]) i r := by
  have e : docWords o i [tOut, a] l = match wholeOf a with
    | some a => some (o ++ [⟨a, l⟩], i)
    | none => none := by
    have h1 : docWords o i [tOut, a] l = if tOut = tOut ∧ [tOut, a].length = 2 then (match wholeOf a with
      | some a => some (o ++ [⟨a, l⟩], i)
      | none => none) else none := if_neg (fun h => by simp at h)
    rw [h1, if_pos ⟨rfl, rfl⟩]
  rw [e, wholeI_of a]
  cases (wholeI a).2 <;> rfl
theorem words_no (n : Int) (r : List (List UInt8)) (o : List Out) (i : List In) (v0 : List UInt8) (vs : List (List UInt8)) (l : List Op) (h1 : ¬ (v0 = tIn ∧ vs.length = 2)) (h2 : ¬ (v0 = tOut ∧ vs.length = 1)) : finish n r (docWords o i (v0 :: vs) l) = (zTx, 1) := by
  have e : docWords o i (v0 :: vs) l = none := by
    unfold docWords
    rw [if_neg (fun h => h1 ⟨h.1, by simpa using h.2⟩), if_neg (fun h => h2 ⟨h.1, by simpa using h.2⟩)]
  rw [e]; rfl
theorem hasPrefix_drop {x p : List UInt8} (h : Go.Lib.hasPrefix x p = true) : Go.Lib.trimPrefix x p = x.drop p.length ∧ p.length ≤ x.length := by
  unfold Go.Lib.trimPrefix
  rw [h, if_pos rfl]
  unfold Go.Lib.hasPrefix at h
  rw [List.isPrefixOf_iff_prefix] at h
  obtain ⟨r, rfl⟩ := h
  exact ⟨rfl, by simp⟩
theorem numI_whole (w : List UInt8) : numI w = wholeI w := rfl
theorem readTx_doc {s : List UInt8} (hs : s.length ≤ 4000) : readTx s = if ((cutAt 10 s).length : Int) < 2 then (zTx, 1) else if (cutAt 10 s).getLastD [] ≠ [] then (zTx, 1) else docGo 0 0 [] [] ((cutAt 10 s).take ((cutAt 10 s).length - 1)) := by
  have key := last_nl s
  have hL := readTx_go s
  rw [if_neg (by omega)] at hL
  rw [hL]
  clear hL
  by_cases h : Go.Lib.hasSuffix s [10] = true
  · obtain ⟨h1, h2⟩ := key.2 h
    have hR : (if ((cutAt 10 s).length : Int) < 2 then (zTx, (1 : Int)) else if (cutAt 10 s).getLastD [] ≠ [] then (zTx, 1) else docGo 0 0 [] [] ((cutAt 10 s).take ((cutAt 10 s).length - 1))) = docGo 0 0 [] [] ((cutAt 10 s).take ((cutAt 10 s).length - 1)) := by
      rw [if_neg (by omega), if_neg (fun k => k h2)]
    rw [hR, if_neg (by simp [h]), lines_of h]
    clear hR h1 h2
    have hne := cutAt_ne 10 (Go.Lib.trimSuffix s [10])
    generalize cutAt 10 (Go.Lib.trimSuffix s [10]) = l at *
    cases l with
    | nil => exact absurd rfl hne
    | cons w ws =>
      have e : ((w :: ws) ++ [[]]).take (((w :: ws) ++ [([] : List UInt8)]).length - 1) = w :: ws := by simp
      have e0 : docGo 0 0 [] [] (w :: ws) = if Go.Lib.hasPrefix w tTx = false then (zTx, 1) else if (wholeI (w.drop 3)).2 = false then (zTx, 1) else linesGo (wholeI (w.drop 3)).1 [] [] ws := if_pos rfl
      rw [e, e0]
      simp only [List.headD_cons, List.drop_succ_cons, List.drop_zero]
      by_cases hp : Go.Lib.hasPrefix w tTx = true
      · obtain ⟨h3, -⟩ := hasPrefix_drop hp
        have h3 : Go.Lib.trimPrefix w tTx = w.drop 3 := h3
        rw [hp, h3, numI_whole]
        cases hw : (wholeI (w.drop 3)).2 <;> simp
      · have hp : Go.Lib.hasPrefix w tTx = false := by simpa using hp
        rw [hp]
        simp
  · have hR : (if ((cutAt 10 s).length : Int) < 2 then (zTx, (1 : Int)) else if (cutAt 10 s).getLastD [] ≠ [] then (zTx, 1) else docGo 0 0 [] [] ((cutAt 10 s).take ((cutAt 10 s).length - 1))) = (zTx, 1) := by
      by_cases h1 : ((cutAt 10 s).length : Int) < 2
      · rw [if_pos h1]
      · rw [if_neg h1, if_pos (fun h2 => h (key.1 ⟨by omega, h2⟩))]
    rw [hR, if_pos (by simpa using h)]
noncomputable def sp_rReadTx : Spec := spD (fun s : List UInt8 => s.length ≤ 4000) fun s => readTx s
theorem sp_rReadTx_at (s : List UInt8) (h : s.length ≤ 4000) : sp_rReadTx [.s s] = some (eTx (readTx s).1 ++ [I (readTx s).2]) := spD_at (p := fun s : List UInt8 => s.length ≤ 4000) (f := fun s : List UInt8 => readTx s) s h
theorem dx_sfrom {sp : Nat → Spec} {E : Env} {a : Atom} {x : List UInt8} {lo : Atom} {m : Int} (ha : a.val E = some (.s x)) (hl : lo.val E = some (I m)) (h0 : 0 ≤ m) (h1 : m ≤ x.length) : denX sp E (.ssub a (some lo) none) = some (.s (x.drop m.toNat)) := by
  have hb : bndI E 0 (some lo) = some m := by show asI (lo.val E) = some m; rw [hl]; rfl
  have := dx_ssub (sp := sp) (lo := some lo) (hi := none) (m := m) (n := (x.length : Int)) ha hb rfl h0 h1 (by omega)
  rw [this]
  simp
theorem dx_stake {sp : Nat → Spec} {E : Env} {a : Atom} {x : List UInt8} {hi : Atom} {n : Int} (ha : a.val E = some (.s x)) (hh : hi.val E = some (I n)) (h0 : 0 ≤ n) (h1 : n ≤ x.length) : denX sp E (.ssub a none (some hi)) = some (.s (x.take n.toNat)) := by
  have hb : bndI E (x.length : Int) (some hi) = some n := by show asI (hi.val E) = some n; rw [hh]; rfl
  have := dx_ssub (sp := sp) (lo := none) (hi := some hi) (m := 0) (n := n) ha rfl hb (by omega) h0 h1
  rw [this]
  simp
theorem idxB_le (x : List UInt8) (c : UInt8) : Go.Lib.indexByte x c < (x.length : Int) := by
  induction x with
  | nil => simp [Go.Lib.indexByte]
  | cons b l ih =>
    rw [Go.Lib.indexByte]
    simp only [List.length_cons]
    split
    · omega
    · split
      · omega
      · omega
attribute [local irreducible] numI linesGo finish lineEnd docWords wholeI
def t_rReadTx_0 : T :=
  .ite (.v 25) (.ret [.c (.i .i64 0), .c (.nil 3), .c (.nil 2), .c (.i .i64 1)]) (.lets [.bin .add (.v 15) (.c (.i .i64 1))] [] (.again 0 [.v 12, .v 13, .v 14, .v 26, .v 23]))
def t_rReadTx_1 : T :=
  .ite (.v 21) (.ret [.c (.i .i64 0), .c (.nil 3), .c (.nil 2), .c (.i .i64 1)]) (.lets [.ssub (.v 18) (some (.c (.i .i64 3))) none] [] (.lets [.call 57 [.v 22] 0, .call 57 [.v 22] 1]
  [] (.lets [.not (.v 24)] [] t_rReadTx_0)))
def t_rReadTx_2 : T :=
  .lets [.mk 3 [[.v 34, .v 37, .v 24]]] [] (.lets [.app 3 (.v 12) (.v 43)] [] (.lets [.bin .add (.v 15) (.c (.i .i64 1))] [] (.again 0 [.v 44, .v 13, .v 14, .v 45, .v 16])))
def t_rReadTx_3 : T :=
  .lets [.len (.v 13)] [] (.lets [.bin .gtr (.v 41) (.c (.i .i64 0))] [] (.ite (.v 42) (.ret [.c (.i .i64 0), .c (.nil 3), .c (.nil 2), .c (.i .i64 1)]) t_rReadTx_2))
def t_rReadTx_4 : T :=
  .ite (.v 39) (.ret [.c (.i .i64 0), .c (.nil 3), .c (.nil 2), .c (.i .i64 1)]) (.lets [.not (.v 38)] [] (.ite (.v 40) (.ret [.c (.i .i64 0), .c (.nil 3), .c (.nil 2), .c (.i .i64
  1)]) t_rReadTx_3))
def t_rReadTx_5 : T :=
  .lets [] [.inr 1 (.v 28) (.c (.i .i64 2))] (.lets [.idx (.v 28) (.c (.i .i64 2)) 0] [] (.lets [.call 57 [.v 36] 0, .call 57 [.v 36] 1] [] (.lets [.not (.v 35)] [] t_rReadTx_4)))
def t_rReadTx_6 : T :=
  .lets [.mk 2 [[.v 38, .v 24]]] [] (.lets [.app 2 (.v 13) (.v 41)] [] (.lets [.bin .add (.v 15) (.c (.i .i64 1))] [] (.again 0 [.v 12, .v 42, .v 14, .v 43, .v 16])))
def t_rReadTx_7 : T :=
  .lets [.call 57 [.v 37] 0, .call 57 [.v 37] 1] [] (.lets [.not (.v 39)] [] (.ite (.v 40) (.ret [.c (.i .i64 0), .c (.nil 3), .c (.nil 2), .c (.i .i64 1)]) t_rReadTx_6))
def t_rReadTx_8 : T :=
  .ite (.v 36) (.lets [] [.inr 1 (.v 28) (.c (.i .i64 1))] (.lets [.idx (.v 28) (.c (.i .i64 1)) 0] [] t_rReadTx_7)) (.ret [.c (.i .i64 0), .c (.nil 3), .c (.nil 2), .c (.i .i64 1)])
def t_rReadTx_9 : T :=
  .ite (.v 34) (.lets [.len (.v 28)] [] (.lets [.bin .eql (.v 35) (.c (.i .i64 2))] [] t_rReadTx_8)) (.ret [.c (.i .i64 0), .c (.nil 3), .c (.nil 2), .c (.i .i64 1)])
def t_rReadTx_10 : T :=
  .ite (.v 32) (.lets [] [.inr 1 (.v 28) (.c (.i .i64 1))] (.lets [.idx (.v 28) (.c (.i .i64 1)) 0] [] (.lets [.call 57 [.v 33] 0, .call 57 [.v 33] 1] [] t_rReadTx_5))) (.lets []
  [.inr 1 (.v 28) (.c (.i .i64 0))] (.lets [.idx (.v 28) (.c (.i .i64 0)) 0] [] (.lets [.bin .eql (.v 33) (.c (.s [111, 117, 116]))] [] t_rReadTx_9)))
def t_rReadTx_11 : T :=
  .lets [.mk 2 [[.v 36, .v 24]]] [] (.lets [.app 2 (.v 13) (.v 39)] [] (.lets [.bin .add (.v 15) (.c (.i .i64 1))] [] (.again 0 [.v 12, .v 40, .v 14, .v 41, .v 16])))
def t_rReadTx_12 : T :=
  .lets [.call 57 [.v 35] 0, .call 57 [.v 35] 1] [] (.lets [.not (.v 37)] [] (.ite (.v 38) (.ret [.c (.i .i64 0), .c (.nil 3), .c (.nil 2), .c (.i .i64 1)]) t_rReadTx_11))
def t_rReadTx_13 : T :=
  .ite (.v 34) (.lets [] [.inr 1 (.v 28) (.c (.i .i64 1))] (.lets [.idx (.v 28) (.c (.i .i64 1)) 0] [] t_rReadTx_12)) (.ret [.c (.i .i64 0), .c (.nil 3), .c (.nil 2), .c (.i .i64 1)])
def t_rReadTx_14 : T :=
  .ite (.v 32) (.lets [.len (.v 28)] [] (.lets [.bin .eql (.v 33) (.c (.i .i64 2))] [] t_rReadTx_13)) (.ret [.c (.i .i64 0), .c (.nil 3), .c (.nil 2), .c (.i .i64 1)])
def t_rReadTx_15 : T :=
  .ite (.v 30) (.lets [.len (.v 28)] [] (.lets [.bin .eql (.v 31) (.c (.i .i64 3))] [] t_rReadTx_10)) (.lets [] [.inr 1 (.v 28) (.c (.i .i64 0))] (.lets [.idx (.v 28) (.c (.i .i64 0))
  0] [] (.lets [.bin .eql (.v 31) (.c (.s [111, 117, 116]))] [] t_rReadTx_14)))
def t_rReadTx_16 : T :=
  .lets [.call 41 [.v 27, .c (.s [32])] 0] [] (.lets [] [.inr 1 (.v 28) (.c (.i .i64 0))] (.lets [.idx (.v 28) (.c (.i .i64 0)) 0] [] (.lets [.bin .eql (.v 29) (.c (.s [105, 110]))]
  [] t_rReadTx_15)))
def t_rReadTx_17 : T :=
  .lets [.bin .neq (.v 25) (.c (.i .i64 0))] [] (.ite (.v 26) (.ret [.c (.i .i64 0), .c (.nil 3), .c (.nil 2), .c (.i .i64 1)]) (.lets [.ssub (.v 18) none (some (.v 20))] []
  t_rReadTx_16))
def t_rReadTx_18 : T :=
  .ite (.v 21) (.ret [.c (.i .i64 0), .c (.nil 3), .c (.nil 2), .c (.i .i64 1)]) (.lets [.bin .add (.v 20) (.c (.i .i64 1))] [] (.lets [.ssub (.v 18) (some (.v 22)) none] [] (.lets
  [.call 58 [.v 23] 0, .call 58 [.v 23] 1] [] t_rReadTx_17)))
def t_rReadTx_19 : T :=
  .ite (.v 19) (.lets [.call 46 [.v 18, .c (.s [116, 120, 32])] 0] [] (.lets [.not (.v 20)] [] t_rReadTx_1)) (.lets [.call 47 [.v 18, .c (.i .u8 58)] 0] [] (.lets [.bin .lss (.v 20)
  (.c (.i .i64 0))] [] t_rReadTx_18))
def t_rReadTx_20 : T :=
  .lets [.bin .neq (.v 18) (.c (.i .i64 0))] [] (.ite (.v 19) (.ret [.c (.i .i64 0), .c (.nil 3), .c (.nil 2), .v 18]) (.ret [.v 16, .v 12, .v 13, .c (.i .i64 0)]))
def t_rReadTx_21 : T :=
  .ite (.v 17) (.lets [] [.inr 1 (.v 10) (.v 15)] (.lets [.idx (.v 10) (.v 15) 0] [] (.lets [.bin .eql (.v 15) (.c (.i .i64 0))] [] t_rReadTx_19))) (.lets [.call 59 [.v 16, .v 12, .v
  13] 0] [] t_rReadTx_20)
def t_rReadTx_22 : T :=
  .lets [.sub 1 (.v 1) none (some (.v 9))] [] (.lets [.len (.v 10)] [] (.loop [.c (.nil 3), .c (.nil 2), .c (.i .i64 0), .c (.i .i64 0), .c (.i .i64 0)] (.lets [.bin .lss (.v 15) (.v
  11)] [] t_rReadTx_21)))
def t_rReadTx_23 : T :=
  .ite (.v 7) (.ret [.c (.i .i64 0), .c (.nil 3), .c (.nil 2), .c (.i .i64 1)]) (.lets [.len (.v 1)] [] (.lets [.bin .sub (.v 8) (.c (.i .i64 1))] [] t_rReadTx_22))
def t_rReadTx_24 : T :=
  .lets [.bin .sub (.v 4) (.c (.i .i64 1))] [] (.lets [] [.inr 1 (.v 1) (.v 5)] (.lets [.idx (.v 1) (.v 5) 0] [] (.lets [.bin .neq (.v 6) (.c (.s []))] [] t_rReadTx_23)))
def t_rReadTx_25 : T :=
  .lets [.bin .lss (.v 2) (.c (.i .i64 2))] [] (.ite (.v 3) (.ret [.c (.i .i64 0), .c (.nil 3), .c (.nil 2), .c (.i .i64 1)]) (.lets [.len (.v 1)] [] t_rReadTx_24))
def t_rReadTx : T :=
  .lets [.call 41 [.v 0, .c (.s [10])] 0] [] (.lets [.len (.v 1)] [] t_rReadTx_25)
attribute [local irreducible] sp_hasPrefix sp_indexByte sp_rCheckTx sp_rReadOps sp_rWhole sp_strSplit
theorem m_rReadTx : Meets Tryz.prog sp_rReadTx 30 ⟨[.one], [(true, [.scal, .pure, .pure]), (false, [.scal])], false⟩ := by
  refine meets_fin (sp := (spsOf [(41, sp_strSplit), (46, sp_hasPrefix), (47, sp_indexByte), (57, sp_rWhole), (58, sp_rReadOps), (59, sp_rCheckTx)])) (sigs := sigsA) (cut := []) (hints := [⟨7, [.n 4 1 660 90 3, .c 4 1 660, .n 4 2 661 84 2, .c 4 2 661, .t 3, .t 46, .o 4]⟩]) (fns := [fnOf 85 Tryz.f85 [] []]) (dep := 1) (pool := 600) (fn := Tryz.f30) (t := t_rReadTx) (by kernel_rfl) (by kernel_rfl) (by kernel_rfl) ?_ ?_ ?_
  · exact (fnOk_cons (fn := Tryz.f85) (by kernel_rfl) (by kernel_rfl) (by kernel_rfl) (by kernel_rfl) (by kernel_rfl) fnOk_nil)
  · exact (sig_of (L := [(41, sp_strSplit), (46, sp_hasPrefix), (47, sp_indexByte), (57, sp_rWhole), (58, sp_rReadOps), (59, sp_rCheckTx)]) ⟨sig_at rfl m_strSplit, sig_at rfl m_hasPrefix, sig_at rfl m_indexByte, sig_at rfl m_rWhole, sig_at rfl m_rReadOps, sig_at rfl m_rCheckTx, trivial⟩)
  · rintro ds rs hok h
    obtain ⟨s, hs, rfl, rfl⟩ := spD_some h
    clear h
    refine ⟨⟨s.length + 5000, ?_⟩, ?_⟩
    · show den _ _ t_rReadTx [.s s] [] = ret (readTx s)
      rw [readTx_doc hs]
      have a1 := sp_strSplit_at s 10 (by omega)
      have hcl := cutAt_len 10 s
      have hne := cutAt_ne 10 s
      generalize cutAt 10 s = l at *
      unfold t_rReadTx
      repeat' (first | refine dq1 ?_ | refine dqc ?_ | refine dqm ?_ | refine dqk rfl (a1) ?_ | refine dqK rfl (a1) ?_ | exact den_ret rfl rfl | refine tR (fun h => ?_) fun h => ?_ | refine tB (fun h => ?_) fun h => ?_ | refine tC (fun h => ?_) fun h => ?_ | refine tN (fun h => ?_) fun h => ?_ | refine tF (fun h => ?_) fun h => ?_ | refine tG (fun h => ?_) fun h => ?_ | refine tP (fun h => ?_) fun h => ?_ | refine tQ (fun h => ?_) fun h => ?_ | refine tA (fun h => ?_) fun h => ?_ | refine tO (fun h => ?_) fun h => ?_ | refine tU (fun h => ?_) fun h => ?_ | refine tV (fun h => ?_) fun h => ?_ | refine dqT ?_ | refine dqF ?_ | refine den_t rfl ?_ | refine den_f rfl ?_ | refine dqTn ?_ | refine dqFn ?_)
      obtain ⟨ws, w0, rfl⟩ : ∃ ws w, l = ws ++ [w] := by
        rcases List.eq_nil_or_concat l with h | ⟨ws, w, h⟩
        · exact absurd h hne
        · exact ⟨ws, w, by simpa using h⟩
      have hlen : ((ws ++ [w0]).length : Int) - 1 = (ws.length : Int) := by simp
      have hln : (ws ++ [w0]).length = ws.length + 1 := by simp
      have hx : (ws ++ [w0])[(((ws ++ [w0]).length : Int) - 1).toNat]? = some w0 := by rw [hlen]; simp
      have ht : (ws ++ [w0]).take (((ws ++ [w0]).length : Int) - 1).toNat = ws := by rw [hlen]; simp
      have ht2 : (ws ++ [w0]).take ((ws ++ [w0]).length - 1) = ws := by simp
      have hg : (ws ++ [w0]).getLastD [] = w0 := by simp
      rw [hg, ht2]
      repeat' (first | refine dq1 ?_ | refine dqc ?_ | refine dqm ?_ | exact den_ret rfl rfl | refine tR (fun h => ?_) fun h => ?_ | refine tB (fun h => ?_) fun h => ?_ | refine tC (fun h => ?_) fun h => ?_ | refine tN (fun h => ?_) fun h => ?_ | refine tF (fun h => ?_) fun h => ?_ | refine tG (fun h => ?_) fun h => ?_ | refine tP (fun h => ?_) fun h => ?_ | refine tQ (fun h => ?_) fun h => ?_ | refine tA (fun h => ?_) fun h => ?_ | refine tO (fun h => ?_) fun h => ?_ | refine tU (fun h => ?_) fun h => ?_ | refine tV (fun h => ?_) fun h => ?_ | refine dqT ?_ | refine dqF ?_ | refine den_t rfl ?_ | refine den_f rfl ?_ | refine dqTn ?_ | refine dqFn ?_)
      (refine den_range (fun (a : List In × List Out × Int) k => [.l 3 (a.1.map eIn), .l 2 (a.2.1.map eOut), I 0, I k, I a.2.2]) (fun (a : List In × List Out × Int) k (r : List (List UInt8)) => docGo k a.2.2 a.2.1 a.1 r) (fun a k => a.1.length + a.2.1.length ≤ k) ([], [], 0) ws ?_ ?_ ?_ ?_ ?_; rfl; exact Nat.zero_le _; omega)
      · rintro ⟨i, o, n⟩ k x r hx hd hk ha again hag
        simp only at ha hag ⊢
        have hxl : x.length ≤ 4000 := by have := hcl.2 x (List.mem_append_left _ (List.mem_of_getElem? hx)); omega
        have hgo : ∀ (n : Int) (i : List In) (o : List Out), docGo (k + 1) n o i r = linesGo n o i r := fun n i o => if_neg (by omega)
        by_cases hk0 : k = 0
        · subst hk0
          have e0 : docGo 0 n o i (x :: r) = if Go.Lib.hasPrefix x tTx = false then (zTx, 1) else if (wholeI (x.drop 3)).2 = false then (zTx, 1) else linesGo (wholeI (x.drop 3)).1 o i r := if_pos rfl
          rw [e0]
          have a2 := sp_hasPrefix_at x tTx
          have hpl := fun h => (hasPrefix_drop (x := x) (p := tTx) h).2
          have a3 := sp_rWhole_at (x.drop 3) (by rw [List.length_drop]; omega)
          have hag' := hag (i, o, (wholeI (x.drop 3)).1) (by simp only; omega)
          simp only at hag'
          rw [hgo] at hag'
          generalize wholeI (x.drop 3) = nb at *
          obtain ⟨m, g⟩ := nb
          simp only at a3 hag' ⊢
          cases hp : Go.Lib.hasPrefix x tTx with
          | false =>
            rw [hp] at a2
            rw [if_pos rfl]
            repeat' (first | refine dq1 ?_ | refine dqc ?_ | refine dqm ?_ | refine dqk rfl (a2) ?_ | refine dqK rfl (a2) ?_ | exact den_ret rfl rfl | refine tR (fun h => ?_) fun h => ?_ | refine tB (fun h => ?_) fun h => ?_ | refine tC (fun h => ?_) fun h => ?_ | refine tN (fun h => ?_) fun h => ?_ | refine tF (fun h => ?_) fun h => ?_ | refine tG (fun h => ?_) fun h => ?_ | refine tP (fun h => ?_) fun h => ?_ | refine tQ (fun h => ?_) fun h => ?_ | refine tA (fun h => ?_) fun h => ?_ | refine tO (fun h => ?_) fun h => ?_ | refine tU (fun h => ?_) fun h => ?_ | refine tV (fun h => ?_) fun h => ?_ | refine dqT ?_ | refine dqF ?_ | refine den_t rfl ?_ | refine den_f rfl ?_ | refine dqTn ?_ | refine dqFn ?_)
          | true =>
            rw [hp] at a2
            have hpl := hpl hp
            have h3 : 3 ≤ x.length := hpl
            rw [if_neg (by simp)]
            cases g with
            | false =>
              rw [if_pos rfl]
              repeat' (first | refine dq1 ?_ | refine dqc ?_ | refine dqm ?_ | refine dqk rfl (a2) ?_ | refine dqK rfl (a2) ?_ | refine dqk rfl (a3) ?_ | refine dqK rfl (a3) ?_ | refine den_let1 (dx_sfrom rfl rfl (by omega) (by omega)) ?_ | exact den_ret rfl rfl | refine tR (fun h => ?_) fun h => ?_ | refine tB (fun h => ?_) fun h => ?_ | refine tC (fun h => ?_) fun h => ?_ | refine tN (fun h => ?_) fun h => ?_ | refine tF (fun h => ?_) fun h => ?_ | refine tG (fun h => ?_) fun h => ?_ | refine tP (fun h => ?_) fun h => ?_ | refine tQ (fun h => ?_) fun h => ?_ | refine tA (fun h => ?_) fun h => ?_ | refine tO (fun h => ?_) fun h => ?_ | refine tU (fun h => ?_) fun h => ?_ | refine tV (fun h => ?_) fun h => ?_ | refine dqT ?_ | refine dqF ?_ | refine den_t rfl ?_ | refine den_f rfl ?_ | refine dqTn ?_ | refine dqFn ?_)
            | true =>
              rw [if_neg (by simp)]
              repeat' (first | refine dq1 ?_ | refine dqc ?_ | refine dqm ?_ | refine dqk rfl (a2) ?_ | refine dqK rfl (a2) ?_ | refine dqk rfl (a3) ?_ | refine dqK rfl (a3) ?_ | refine den_let1 (dx_sfrom rfl rfl (by omega) (by omega)) ?_ | exact den_ret rfl rfl | refine tR (fun h => ?_) fun h => ?_ | refine tB (fun h => ?_) fun h => ?_ | refine tC (fun h => ?_) fun h => ?_ | refine tN (fun h => ?_) fun h => ?_ | refine tF (fun h => ?_) fun h => ?_ | refine tG (fun h => ?_) fun h => ?_ | refine tP (fun h => ?_) fun h => ?_ | refine tQ (fun h => ?_) fun h => ?_ | refine tA (fun h => ?_) fun h => ?_ | refine tO (fun h => ?_) fun h => ?_ | refine tU (fun h => ?_) fun h => ?_ | refine tV (fun h => ?_) fun h => ?_ | refine dqT ?_ | refine dqF ?_ | refine den_t rfl ?_ | refine den_f rfl ?_ | refine dqTn ?_ | refine dqFn ?_)
              exact den_again rfl rfl hag'
        · have e0 : docGo k n o i (x :: r) = linesGo n o i (x :: r) := if_neg hk0
          rw [e0]
          have b1 := sp_indexByte_at x 58
          have hjl := idxB_le x 58
          have hj0 : (58 : Int).toNat.toUInt8 = 58 := rfl
          rw [hj0] at b1
          generalize hj : Go.Lib.indexByte x 58 = j at *
          have hne2 := cutAt_ne 32 (x.take j.toNat)
          have hcw := cutAt_len 32 (x.take j.toNat)
          have b2 := sp_strSplit_at (x.take j.toNat) 32 (by rw [List.length_take]; omega)
          have b3 := sp_rReadOps_at (x.drop (j + 1).toNat) (by rw [List.length_drop]; omega)
          generalize hv : cutAt 32 (x.take j.toNat) = v at *
          cases v with
          | nil => exact absurd rfl hne2
          | cons v0 vs =>
          generalize hr : readOf (x.drop (j + 1).toNat) = rd at *
          obtain ⟨l, e⟩ := rd
          simp only at b3
          rw [docLine_end n r o i x hj hv hr]
          have hv0 : (v0 :: vs)[0]? = some v0 := rfl
          have hvn : (v0 :: vs).length = vs.length + 1 := rfl
          have htl : (x.take j.toNat).length ≤ 4000 := by rw [List.length_take]; omega
          repeat' (first | refine dq1 ?_ | refine dqc ?_ | refine dqm ?_ | refine dqk rfl (b1) ?_ | refine dqK rfl (b1) ?_ | refine dqk rfl (b2) ?_ | refine dqK rfl (b2) ?_ | refine dqk rfl (b3) ?_ | refine dqK rfl (b3) ?_ | refine den_let1 (dx_sfrom rfl rfl (by omega) (by omega)) ?_ | refine den_let1 (dx_stake rfl rfl (by omega) (by omega)) ?_ | exact den_ret rfl rfl | refine tR (fun h => ?_) fun h => ?_ | refine tB (fun h => ?_) fun h => ?_ | refine tC (fun h => ?_) fun h => ?_ | refine tN (fun h => ?_) fun h => ?_ | refine tF (fun h => ?_) fun h => ?_ | refine tG (fun h => ?_) fun h => ?_ | refine tP (fun h => ?_) fun h => ?_ | refine tQ (fun h => ?_) fun h => ?_ | refine tA (fun h => ?_) fun h => ?_ | refine tO (fun h => ?_) fun h => ?_ | refine tU (fun h => ?_) fun h => ?_ | refine tV (fun h => ?_) fun h => ?_ | refine dqT ?_ | refine dqF ?_ | refine den_t rfl ?_ | refine den_f rfl ?_ | refine dqTn ?_ | refine dqFn ?_)
          clear b1 b2 b3
          have hcw2 := hcw.2
          have hww : ∀ y, y ∈ v0 :: vs → y.length ≤ 1000000000 := fun y hy => by have := hcw2 y hy; omega
          clear hcw hcw2
          have hag := fun (s' : List In × List Out × Int) (h : s'.1.length + s'.2.1.length ≤ k + 1) => hag s' h
          simp only [hgo] at hag
          by_cases c1 : v0 = tIn
          · subst c1
            by_cases c2 : vs.length = 2
            · match vs, c2 with
              | [wa, wb], _ =>
              rw [words_in]
              have xa : [tIn, wa, wb][(1 : Int).toNat]? = some wa := rfl
              have xb : [tIn, wa, wb][(2 : Int).toNat]? = some wb := rfl
              have xl : [tIn, wa, wb].length = 3 := rfl
              have d1 := sp_rWhole_at wa (hww wa (by simp))
              have d2 := sp_rWhole_at wb (hww wb (by simp))
              generalize wholeI wa = pa at *
              generalize wholeI wb = pb at *
              obtain ⟨na, oka⟩ := pa
              obtain ⟨nb, okb⟩ := pb
              simp only at d1 d2 ⊢
              repeat' (first | refine dq1 ?_ | refine dqc ?_ | refine dqm ?_ | refine dqk rfl (d1) ?_ | refine dqK rfl (d1) ?_ | refine dqk rfl (d2) ?_ | refine dqK rfl (d2) ?_ | refine den_let1 (den_mk rfl rfl (by simp)) ?_ | refine den_let1 (dx_app1 (x := ⟨⟨na, nb⟩, l⟩) (fun _ => rfl) rfl rfl (by omega)) ?_ | exact den_ret rfl rfl | refine tR (fun h => ?_) fun h => ?_ | refine tB (fun h => ?_) fun h => ?_ | refine tC (fun h => ?_) fun h => ?_ | refine tN (fun h => ?_) fun h => ?_ | refine tF (fun h => ?_) fun h => ?_ | refine tG (fun h => ?_) fun h => ?_ | refine tP (fun h => ?_) fun h => ?_ | refine tQ (fun h => ?_) fun h => ?_ | refine tA (fun h => ?_) fun h => ?_ | refine tO (fun h => ?_) fun h => ?_ | refine tU (fun h => ?_) fun h => ?_ | refine tV (fun h => ?_) fun h => ?_ | refine dqT ?_ | refine dqF ?_ | refine den_t rfl ?_ | refine den_f rfl ?_ | refine dqTn ?_ | refine dqFn ?_)
              exact den_again rfl rfl (hag (i ++ [⟨⟨na, nb⟩, l⟩], o, n) (by simp; omega))
            · rw [words_no _ _ _ _ _ _ _ (fun h => c2 h.2) (fun h => absurd h.1 (by decide))]
              repeat' (first | refine dq1 ?_ | refine dqc ?_ | refine dqm ?_ | exact den_ret rfl rfl | refine tR (fun h => ?_) fun h => ?_ | refine tB (fun h => ?_) fun h => ?_ | refine tC (fun h => ?_) fun h => ?_ | refine tN (fun h => ?_) fun h => ?_ | refine tF (fun h => ?_) fun h => ?_ | refine tG (fun h => ?_) fun h => ?_ | refine tP (fun h => ?_) fun h => ?_ | refine tQ (fun h => ?_) fun h => ?_ | refine tA (fun h => ?_) fun h => ?_ | refine tO (fun h => ?_) fun h => ?_ | refine tU (fun h => ?_) fun h => ?_ | refine tV (fun h => ?_) fun h => ?_ | refine dqT ?_ | refine dqF ?_ | refine den_t rfl ?_ | refine den_f rfl ?_ | refine dqTn ?_ | refine dqFn ?_)
          · by_cases c3 : v0 = tOut
            · subst c3
              by_cases c4 : vs.length = 1
              · match vs, c4 with
                | [wa], _ =>
                rw [words_out]
                have xa : [tOut, wa][(1 : Int).toNat]? = some wa := rfl
                have xl : [tOut, wa].length = 2 := rfl
                have d1 := sp_rWhole_at wa (hww wa (by simp))
                generalize wholeI wa = pa at *
                obtain ⟨na, oka⟩ := pa
                simp only at d1 ⊢
                repeat' (first | refine dq1 ?_ | refine dqc ?_ | refine dqm ?_ | refine dqk rfl (d1) ?_ | refine dqK rfl (d1) ?_ | refine den_let1 (den_mk rfl rfl (by simp)) ?_ | refine den_let1 (dx_app1 (x := ⟨na, l⟩) (fun _ => rfl) rfl rfl (by omega)) ?_ | exact den_ret rfl rfl | refine tR (fun h => ?_) fun h => ?_ | refine tB (fun h => ?_) fun h => ?_ | refine tC (fun h => ?_) fun h => ?_ | refine tN (fun h => ?_) fun h => ?_ | refine tF (fun h => ?_) fun h => ?_ | refine tG (fun h => ?_) fun h => ?_ | refine tP (fun h => ?_) fun h => ?_ | refine tQ (fun h => ?_) fun h => ?_ | refine tA (fun h => ?_) fun h => ?_ | refine tO (fun h => ?_) fun h => ?_ | refine tU (fun h => ?_) fun h => ?_ | refine tV (fun h => ?_) fun h => ?_ | refine dqT ?_ | refine dqF ?_ | refine den_t rfl ?_ | refine den_f rfl ?_ | refine dqTn ?_ | refine dqFn ?_)
                exact den_again rfl rfl (hag (i, o ++ [⟨na, l⟩], n) (by simp; omega))
              · rw [words_no _ _ _ _ _ _ _ (fun h => absurd h.1 (by decide)) (fun h => c4 h.2)]
                repeat' (first | refine dq1 ?_ | refine dqc ?_ | refine dqm ?_ | exact den_ret rfl rfl | refine tR (fun h => ?_) fun h => ?_ | refine tB (fun h => ?_) fun h => ?_ | refine tC (fun h => ?_) fun h => ?_ | refine tN (fun h => ?_) fun h => ?_ | refine tF (fun h => ?_) fun h => ?_ | refine tG (fun h => ?_) fun h => ?_ | refine tP (fun h => ?_) fun h => ?_ | refine tQ (fun h => ?_) fun h => ?_ | refine tA (fun h => ?_) fun h => ?_ | refine tO (fun h => ?_) fun h => ?_ | refine tU (fun h => ?_) fun h => ?_ | refine tV (fun h => ?_) fun h => ?_ | refine dqT ?_ | refine dqF ?_ | refine den_t rfl ?_ | refine den_f rfl ?_ | refine dqTn ?_ | refine dqFn ?_)
            · rw [words_no _ _ _ _ _ _ _ (fun h => c1 h.1) (fun h => c3 h.1)]
              repeat' (first | refine dq1 ?_ | refine dqc ?_ | refine dqm ?_ | exact den_ret rfl rfl | refine tR (fun h => ?_) fun h => ?_ | refine tB (fun h => ?_) fun h => ?_ | refine tC (fun h => ?_) fun h => ?_ | refine tN (fun h => ?_) fun h => ?_ | refine tF (fun h => ?_) fun h => ?_ | refine tG (fun h => ?_) fun h => ?_ | refine tP (fun h => ?_) fun h => ?_ | refine tQ (fun h => ?_) fun h => ?_ | refine tA (fun h => ?_) fun h => ?_ | refine tO (fun h => ?_) fun h => ?_ | refine tU (fun h => ?_) fun h => ?_ | refine tV (fun h => ?_) fun h => ?_ | refine dqT ?_ | refine dqF ?_ | refine den_t rfl ?_ | refine den_f rfl ?_ | refine dqTn ?_ | refine dqFn ?_)
      · rintro ⟨i, o, n⟩ ha again
        simp only at ha ⊢
        have e0 : docGo ws.length n o i [] = if txCheck ⟨n, i, o⟩ ≠ 0 then (zTx, txCheck ⟨n, i, o⟩) else (⟨n, i, o⟩, 0) := by
          have e1 : docGo ws.length n o i [] = linesGo n o i [] := by unfold docGo; split <;> rfl
          rw [e1]
          with_unfolding_all rfl
        rw [e0]
        have b5 := sp_rCheckTx_at ⟨n, i, o⟩
        simp only at b5
        repeat' (first | refine dq1 ?_ | refine dqc ?_ | refine dqm ?_ | refine dqk rfl (b5) ?_ | refine dqK rfl (b5) ?_ | exact den_ret rfl rfl | refine tR (fun h => ?_) fun h => ?_ | refine tB (fun h => ?_) fun h => ?_ | refine tC (fun h => ?_) fun h => ?_ | refine tN (fun h => ?_) fun h => ?_ | refine tF (fun h => ?_) fun h => ?_ | refine tG (fun h => ?_) fun h => ?_ | refine tP (fun h => ?_) fun h => ?_ | refine tQ (fun h => ?_) fun h => ?_ | refine tA (fun h => ?_) fun h => ?_ | refine tO (fun h => ?_) fun h => ?_ | refine tU (fun h => ?_) fun h => ?_ | refine tV (fun h => ?_) fun h => ?_ | refine dqT ?_ | refine dqF ?_ | refine den_t rfl ?_ | refine den_f rfl ?_ | refine dqTn ?_ | refine dqFn ?_)
    · intro i d hi hd
      match i, hi, hd with
      | 0, _, hd =>
        obtain rfl : I (readTx s).1.height = d := Option.some.inj hd
        rfl
      | 1, hi, _ => simp [cfsOf] at hi
      | 2, hi, _ => simp [cfsOf] at hi
      | 3, _, hd =>
        obtain rfl : I (readTx s).2 = d := Option.some.inj hd
        rfl
      | i + 4, hi, hd => simp [cfsOf] at hi
end Go.Proofs.YtnklncinjahckaaGreatDoor
namespace Go.Proofs.YtnklncinjahckaaGreatDoor
open Go.RowKit
open Go.Lib (itoa)
set_option linter.unusedVariables false
set_option linter.unusedSimpArgs false
set_option maxRecDepth 100000
set_option maxHeartbeats 8000000
attribute [local irreducible] specOf spD ordP itoa opsCheck txCheck readTx printTx txText
attribute [local irreducible] den denX denXs holdXs
theorem sp_txPrintC_at (t : Tx) : sp_txPrint [I t.height, .l 3 (t.ins.map eIn), .l 2 (t.outs.map eOut)] = some [.s (printTx t).1, I (printTx t).2] := sp_txPrint_at t
noncomputable def sp_lTxPrint : Spec := spD (fun _ : Tx × Tx => True) fun _ => true
def t_lTxPrint_0 : T :=
  .ite (.v 16) (.lets [.bin .eql (.v 7) (.v 8)] [] (.ite (.v 17) (.lets [.bin .eql (.v 6) (.c (.s []))] [] (.ret [.v 18])) (.ret [.c (.b false)]))) (.ret [.c (.b false)])
def t_lTxPrint_1 : T :=
  .lets [.call 68 [.v 0, .v 1, .v 2, .v 3, .v 4, .v 5] 0] [] (.lets [.call 80 [.v 0, .v 1, .v 2, .v 3, .v 4, .v 5] 0] [] (.lets [.beq false (.v 14) (.v 15)] [] t_lTxPrint_0))
def t_lTxPrint_2 : T :=
  .ite (.v 11) (.lets [.call 17 [.v 0, .v 1, .v 2] 0] [] (.lets [.bin .eql (.v 12) (.v 8)] [] (.ite (.v 13) t_lTxPrint_1 (.ret [.c (.b false)])))) (.ret [.c (.b false)])
def t_lTxPrint_3 : T :=
  .ite (.v 18) (.lets [.bin .eql (.v 7) (.v 8)] [] (.ite (.v 19) (.lets [.bin .eql (.v 6) (.c (.s []))] [] (.ret [.v 20])) (.ret [.c (.b false)]))) (.ret [.c (.b false)])
def t_lTxPrint_4 : T :=
  .lets [.call 68 [.v 0, .v 1, .v 2, .v 3, .v 4, .v 5] 0] [] (.lets [.call 80 [.v 0, .v 1, .v 2, .v 3, .v 4, .v 5] 0] [] (.lets [.beq false (.v 16) (.v 17)] [] t_lTxPrint_3))
def t_lTxPrint_5 : T :=
  .ite (.v 13) (.lets [.call 17 [.v 0, .v 1, .v 2] 0] [] (.lets [.bin .eql (.v 14) (.v 8)] [] (.ite (.v 15) t_lTxPrint_4 (.ret [.c (.b false)])))) (.ret [.c (.b false)])
def t_lTxPrint_6 : T :=
  .ite (.v 21) (.lets [.bin .eql (.v 7) (.v 8)] [] (.ite (.v 22) (.lets [.bin .eql (.v 6) (.c (.s []))] [] (.ret [.v 23])) (.ret [.c (.b false)]))) (.ret [.c (.b false)])
def t_lTxPrint_7 : T :=
  .lets [.call 68 [.v 0, .v 1, .v 2, .v 3, .v 4, .v 5] 0] [] (.lets [.call 80 [.v 0, .v 1, .v 2, .v 3, .v 4, .v 5] 0] [] (.lets [.beq false (.v 19) (.v 20)] [] t_lTxPrint_6))
def t_lTxPrint_8 : T :=
  .ite (.v 16) (.lets [.call 17 [.v 0, .v 1, .v 2] 0] [] (.lets [.bin .eql (.v 17) (.v 8)] [] (.ite (.v 18) t_lTxPrint_7 (.ret [.c (.b false)])))) (.ret [.c (.b false)])
def t_lTxPrint_9 : T :=
  .ite (.v 22) (.lets [.bin .eql (.v 7) (.v 8)] [] (.ite (.v 23) (.lets [.bin .eql (.v 6) (.c (.s []))] [] (.ret [.v 24])) (.ret [.c (.b false)]))) (.ret [.c (.b false)])
def t_lTxPrint_10 : T :=
  .lets [.call 68 [.v 0, .v 1, .v 2, .v 3, .v 4, .v 5] 0] [] (.lets [.call 80 [.v 0, .v 1, .v 2, .v 3, .v 4, .v 5] 0] [] (.lets [.beq false (.v 20) (.v 21)] [] t_lTxPrint_9))
def t_lTxPrint_11 : T :=
  .ite (.v 17) (.lets [.call 17 [.v 0, .v 1, .v 2] 0] [] (.lets [.bin .eql (.v 18) (.v 8)] [] (.ite (.v 19) t_lTxPrint_10 (.ret [.c (.b false)])))) (.ret [.c (.b false)])
def t_lTxPrint_12 : T :=
  .lets [.bin .eql (.v 7) (.c (.i .i64 0))] [] (.ite (.v 17) (.lets [.call 78 [.v 0, .v 1, .v 2] 0] [] (.lets [.bin .eql (.v 6) (.v 18)] [] (.ret [.v 19]))) (.ret [.c (.b false)]))
def t_lTxPrint_13 : T :=
  .ite (.v 15) (.lets [.call 64 [] 0] [] t_lTxPrint_8) (.lets [.bin .neq (.v 8) (.c (.i .i64 0))] [] (.ite (.v 16) (.lets [.call 64 [] 0] [] t_lTxPrint_11) t_lTxPrint_12))
def t_lTxPrint_14 : T :=
  .lets [.call 68 [.v 0, .v 1, .v 2, .v 3, .v 4, .v 5] 0] [] (.lets [.call 80 [.v 0, .v 1, .v 2, .v 3, .v 4, .v 5] 0] [] (.lets [.beq true (.v 13) (.v 14)] [] t_lTxPrint_13))
def t_lTxPrint_15 : T :=
  .ite (.v 10) (.lets [.call 64 [] 0] [] t_lTxPrint_2) (.lets [.call 17 [.v 0, .v 1, .v 2] 0] [] (.lets [.bin .neq (.v 11) (.v 8)] [] (.ite (.v 12) (.lets [.call 64 [] 0] []
  t_lTxPrint_5) t_lTxPrint_14)))
def t_lTxPrint : T :=
  .lets [.call 62 [.v 0, .v 1, .v 2] 0, .call 62 [.v 0, .v 1, .v 2] 1] [] (.lets [.call 59 [.v 0, .v 1, .v 2] 0] [] (.lets [.call 64 [] 0] [] (.lets [.not (.v 9)] [] t_lTxPrint_15)))
attribute [local irreducible] sp_lWritten sp_rCheckTx sp_rSameTx sp_rTxText sp_txCheck sp_txPrint sp_txSame
theorem m_lTxPrint : Meets Tryz.prog sp_lTxPrint 7 ⟨[.agg 3, .agg 3], [(false, [.scal])], true⟩ := by
  refine meets_fast (sp := (spsOf [(17, sp_txCheck), (59, sp_rCheckTx), (62, sp_txPrint), (64, sp_lWritten), (68, sp_txSame), (78, sp_rTxText), (80, sp_rSameTx)])) (sigs := sigsA) (cut := []) (hints := []) (fn := Tryz.f7) (t := t_lTxPrint) (by kernel_rfl) (by kernel_rfl) (by kernel_rfl) ?_ ?_
  · exact (sig_of (L := [(17, sp_txCheck), (59, sp_rCheckTx), (62, sp_txPrint), (64, sp_lWritten), (68, sp_txSame), (78, sp_rTxText), (80, sp_rSameTx)]) ⟨sig_at rfl m_txCheck, sig_at rfl m_rCheckTx, sig_at rfl m_txPrint, sig_at rfl m_lWritten, sig_at rfl m_txSame, sig_at rfl m_rTxText, sig_at rfl m_rSameTx, trivial⟩)
  · rintro ds rs - h
    obtain ⟨⟨t, u⟩, -, rfl, rfl⟩ := spD_some h
    clear h
    refine ⟨⟨1, ?_⟩, scalOk_1 rfl⟩
    show den _ _ t_lTxPrint [I t.height, .l 3 (t.ins.map eIn), .l 2 (t.outs.map eOut), I u.height, .l 3 (u.ins.map eIn), .l 2 (u.outs.map eOut)] [] = ret true
    have a1 := sp_txPrintC_at t
    have a2 := sp_lWritten_at
    have a3 := sp_txCheckB_at t
    have a4 := sp_rCheckTx_at t
    have a5 := sp_txSame_at t u
    have a6 := sp_rSameTx_at t u
    have hcc : ¬ txCheck t ≠ txCheck t := fun h => h rfl
    have h00 : ¬ (0 : Int) ≠ 0 := fun h => h rfl
    have hee : ([] : List UInt8) = [] := rfl
    have htt : txText t = txText t := rfl
    unfold t_lTxPrint
    by_cases ht : txCheck t = 0
    · rw [printTx_ok ht] at a1
      have a7 := sp_rTxText_at t ht
      rw [ht] at a3 a4
      generalize decide (t = u) = b at *
      have hbb : ¬ b ≠ b := fun h => h rfl
      cases b
      · repeat' (first | refine dq1 ?_ | refine dqc ?_ | refine dqm ?_ | refine dqk rfl (a1) ?_ | refine dqK rfl (a1) ?_ | refine dqk rfl (a2) ?_ | refine dqK rfl (a2) ?_ | refine dqk rfl (a3) ?_ | refine dqK rfl (a3) ?_ | refine dqk rfl (a4) ?_ | refine dqK rfl (a4) ?_ | refine dqk rfl (a5) ?_ | refine dqK rfl (a5) ?_ | refine dqk rfl (a6) ?_ | refine dqK rfl (a6) ?_ | refine dqk rfl (a7) ?_ | refine dqK rfl (a7) ?_ | exact den_ret rfl rfl | refine tR (fun h => ?_) fun h => ?_ | refine tB (fun h => ?_) fun h => ?_ | refine tC (fun h => ?_) fun h => ?_ | refine tN (fun h => ?_) fun h => ?_ | refine tF (fun h => ?_) fun h => ?_ | refine tG (fun h => ?_) fun h => ?_ | refine tP (fun h => ?_) fun h => ?_ | refine tQ (fun h => ?_) fun h => ?_ | refine tA (fun h => ?_) fun h => ?_ | refine tO (fun h => ?_) fun h => ?_ | refine tU (fun h => ?_) fun h => ?_ | refine tV (fun h => ?_) fun h => ?_ | refine dqT ?_ | refine dqF ?_ | refine den_t rfl ?_ | refine den_f rfl ?_ | refine dqTn ?_ | refine dqFn ?_)
      · repeat' (first | refine dq1 ?_ | refine dqc ?_ | refine dqm ?_ | refine dqk rfl (a1) ?_ | refine dqK rfl (a1) ?_ | refine dqk rfl (a2) ?_ | refine dqK rfl (a2) ?_ | refine dqk rfl (a3) ?_ | refine dqK rfl (a3) ?_ | refine dqk rfl (a4) ?_ | refine dqK rfl (a4) ?_ | refine dqk rfl (a5) ?_ | refine dqK rfl (a5) ?_ | refine dqk rfl (a6) ?_ | refine dqK rfl (a6) ?_ | refine dqk rfl (a7) ?_ | refine dqK rfl (a7) ?_ | exact den_ret rfl rfl | refine tR (fun h => ?_) fun h => ?_ | refine tB (fun h => ?_) fun h => ?_ | refine tC (fun h => ?_) fun h => ?_ | refine tN (fun h => ?_) fun h => ?_ | refine tF (fun h => ?_) fun h => ?_ | refine tG (fun h => ?_) fun h => ?_ | refine tP (fun h => ?_) fun h => ?_ | refine tQ (fun h => ?_) fun h => ?_ | refine tA (fun h => ?_) fun h => ?_ | refine tO (fun h => ?_) fun h => ?_ | refine tU (fun h => ?_) fun h => ?_ | refine tV (fun h => ?_) fun h => ?_ | refine dqT ?_ | refine dqF ?_ | refine den_t rfl ?_ | refine den_f rfl ?_ | refine dqTn ?_ | refine dqFn ?_)
    · have hp : printTx t = ([], txCheck t) := by with_unfolding_all exact if_pos ht
      rw [hp] at a1
      generalize txCheck t = e at *
      generalize decide (t = u) = b at *
      cases b
      · repeat' (first | refine dq1 ?_ | refine dqc ?_ | refine dqm ?_ | refine dqk rfl (a1) ?_ | refine dqK rfl (a1) ?_ | refine dqk rfl (a2) ?_ | refine dqK rfl (a2) ?_ | refine dqk rfl (a3) ?_ | refine dqK rfl (a3) ?_ | refine dqk rfl (a4) ?_ | refine dqK rfl (a4) ?_ | refine dqk rfl (a5) ?_ | refine dqK rfl (a5) ?_ | refine dqk rfl (a6) ?_ | refine dqK rfl (a6) ?_ | exact den_ret rfl rfl | refine tR (fun h => ?_) fun h => ?_ | refine tB (fun h => ?_) fun h => ?_ | refine tC (fun h => ?_) fun h => ?_ | refine tN (fun h => ?_) fun h => ?_ | refine tF (fun h => ?_) fun h => ?_ | refine tG (fun h => ?_) fun h => ?_ | refine tP (fun h => ?_) fun h => ?_ | refine tQ (fun h => ?_) fun h => ?_ | refine tA (fun h => ?_) fun h => ?_ | refine tO (fun h => ?_) fun h => ?_ | refine tU (fun h => ?_) fun h => ?_ | refine tV (fun h => ?_) fun h => ?_ | refine dqT ?_ | refine dqF ?_ | refine den_t rfl ?_ | refine den_f rfl ?_ | refine dqTn ?_ | refine dqFn ?_)
      · repeat' (first | refine dq1 ?_ | refine dqc ?_ | refine dqm ?_ | refine dqk rfl (a1) ?_ | refine dqK rfl (a1) ?_ | refine dqk rfl (a2) ?_ | refine dqK rfl (a2) ?_ | refine dqk rfl (a3) ?_ | refine dqK rfl (a3) ?_ | refine dqk rfl (a4) ?_ | refine dqK rfl (a4) ?_ | refine dqk rfl (a5) ?_ | refine dqK rfl (a5) ?_ | refine dqk rfl (a6) ?_ | refine dqK rfl (a6) ?_ | exact den_ret rfl rfl | refine tR (fun h => ?_) fun h => ?_ | refine tB (fun h => ?_) fun h => ?_ | refine tC (fun h => ?_) fun h => ?_ | refine tN (fun h => ?_) fun h => ?_ | refine tF (fun h => ?_) fun h => ?_ | refine tG (fun h => ?_) fun h => ?_ | refine tP (fun h => ?_) fun h => ?_ | refine tQ (fun h => ?_) fun h => ?_ | refine tA (fun h => ?_) fun h => ?_ | refine tO (fun h => ?_) fun h => ?_ | refine tU (fun h => ?_) fun h => ?_ | refine tV (fun h => ?_) fun h => ?_ | refine dqT ?_ | refine dqF ?_ | refine den_t rfl ?_ | refine den_f rfl ?_ | refine dqTn ?_ | refine dqFn ?_)
theorem txPrint_walk (t : Tx) (c_t : List Value) (u : Tx) (c_u : List Value) (w : World) (h_t : shTx.rep w (Lt w.heap.size) t c_t) (h_u : shTx.rep w (Lt w.heap.size) u c_u) (hG : Glob w) :
    Calls Tryz.prog 7 #[.agg c_t.toArray, .agg c_u.toArray] w fun e w' => e = .returned (.bool true) ∧ Below w.heap.size w w' :=
  meets_calls (F := Lt w.heap.size) (us := [.agg c_t.toArray, .agg c_u.toArray]) rfl (en_of (fn := Tryz.f7) (by kernel_rfl) (by kernel_rfl) (by kernel_rfl)) m_lTxPrint ⟨fun _ h => h, hG⟩ (spD_at (f := fun _ => true) (t, u) trivial)
    (pks_mk_agg (d1 := eTx t) (she_tx.to h_t) rfl (pks_mk_agg (d1 := eTx u) (she_tx.to h_u) rfl pks_mk_nil))
noncomputable def sp_lTxParse : Spec := spD (fun _ : List UInt8 => True) fun _ => true
def t_lTxParse_0 : T :=
  .lets [.bin .eql (.v 4) (.c (.i .i64 2))] [] (.ite (.v 8) (.lets [.call 80 [.v 1, .v 2, .v 3, .c (.i .i64 0), .c (.nil 3), .c (.nil 2)] 0] [] (.ret [.v 9])) (.ret [.c (.b false)]))
def t_lTxParse_1 : T :=
  .lets [.bin .eql (.v 4) (.c (.i .i64 2))] [] (.ite (.v 10) (.lets [.call 80 [.v 1, .v 2, .v 3, .c (.i .i64 0), .c (.nil 3), .c (.nil 2)] 0] [] (.ret [.v 11])) (.ret [.c (.b
  false)]))
def t_lTxParse_2 : T :=
  .lets [.call 79 [.v 0] 0, .call 79 [.v 0] 1, .call 79 [.v 0] 2, .call 79 [.v 0] 3] [] (.lets [.bin .eql (.v 4) (.v 12)] [] (.ite (.v 13) (.lets [.call 80 [.v 1, .v 2, .v 3, .v 9, .v
  10, .v 11] 0] [] (.ret [.v 14])) (.ret [.c (.b false)])))
def t_lTxParse_3 : T :=
  .lets [.slen (.v 0)] [] (.lets [.bin .gtr (.v 7) (.c (.i .i64 4000))] [] (.ite (.v 8) (.lets [.call 64 [] 0] [] (.ite (.v 9) t_lTxParse_1 (.ret [.c (.b false)]))) t_lTxParse_2))
def t_lTxParse : T :=
  .lets [.call 61 [.v 0] 0, .call 61 [.v 0] 1, .call 61 [.v 0] 2, .call 61 [.v 0] 3] [] (.lets [.call 64 [] 0] [] (.lets [.not (.v 5)] [] (.ite (.v 6) (.lets [.call 64 [] 0] [] (.ite
  (.v 7) t_lTxParse_0 (.ret [.c (.b false)]))) t_lTxParse_3)))
attribute [local irreducible] sp_rReadTx sp_txParse
theorem m_lTxParse : Meets Tryz.prog sp_lTxParse 8 ⟨[.one], [(false, [.scal])], true⟩ := by
  refine meets_fast (sp := (spsOf [(61, sp_txParse), (64, sp_lWritten), (79, sp_rReadTx), (80, sp_rSameTx)])) (sigs := sigsA) (cut := []) (hints := []) (fn := Tryz.f8) (t := t_lTxParse) (by kernel_rfl) (by kernel_rfl) (by kernel_rfl) ?_ ?_
  · exact (sig_of (L := [(61, sp_txParse), (64, sp_lWritten), (79, sp_rReadTx), (80, sp_rSameTx)]) ⟨sig_at rfl m_txParse, sig_at rfl m_lWritten, sig_at rfl m_rReadTx, sig_at rfl m_rSameTx, trivial⟩)
  · rintro ds rs - h
    obtain ⟨s, -, rfl, rfl⟩ := spD_some h
    clear h
    refine ⟨⟨1, ?_⟩, scalOk_1 rfl⟩
    show den _ _ t_lTxParse [.s s] [] = ret true
    have a1 := sp_txParse_at s
    have a2 := sp_lWritten_at
    have h00 : ¬ (0 : Int) ≠ 0 := fun h => h rfl
    unfold t_lTxParse
    by_cases hs : 4000 < (s.length : Int)
    · have hr : readTx s = (zTx, 2) := by with_unfolding_all exact if_pos hs
      rw [hr] at a1
      have a3 := sp_rSameTx_at zTx zTx
      rw [decide_eq_true rfl] at a3
      repeat' (first | refine dq1 ?_ | refine dqc ?_ | refine dqm ?_ | refine dqk rfl (a1) ?_ | refine dqK rfl (a1) ?_ | refine dqk rfl (a2) ?_ | refine dqK rfl (a2) ?_ | refine dqk rfl (a3) ?_ | refine dqK rfl (a3) ?_ | exact den_ret rfl rfl | refine tR (fun h => ?_) fun h => ?_ | refine tB (fun h => ?_) fun h => ?_ | refine tC (fun h => ?_) fun h => ?_ | refine tN (fun h => ?_) fun h => ?_ | refine tF (fun h => ?_) fun h => ?_ | refine tG (fun h => ?_) fun h => ?_ | refine tP (fun h => ?_) fun h => ?_ | refine tQ (fun h => ?_) fun h => ?_ | refine tA (fun h => ?_) fun h => ?_ | refine tO (fun h => ?_) fun h => ?_ | refine tU (fun h => ?_) fun h => ?_ | refine tV (fun h => ?_) fun h => ?_ | refine dqT ?_ | refine dqF ?_ | refine den_t rfl ?_ | refine den_f rfl ?_ | refine dqTn ?_ | refine dqFn ?_)
    · have a3 := sp_rReadTx_at s (by omega)
      have a4 := sp_rSameTx_at (readTx s).1 (readTx s).1
      rw [decide_eq_true rfl] at a4
      generalize readTx s = q at *
      obtain ⟨t, e⟩ := q
      simp only at a1 a3 a4
      repeat' (first | refine dq1 ?_ | refine dqc ?_ | refine dqm ?_ | refine dqk rfl (a1) ?_ | refine dqK rfl (a1) ?_ | refine dqk rfl (a2) ?_ | refine dqK rfl (a2) ?_ | refine dqk rfl (a3) ?_ | refine dqK rfl (a3) ?_ | refine dqk rfl (a4) ?_ | refine dqK rfl (a4) ?_ | exact den_ret rfl rfl | refine tR (fun h => ?_) fun h => ?_ | refine tB (fun h => ?_) fun h => ?_ | refine tC (fun h => ?_) fun h => ?_ | refine tN (fun h => ?_) fun h => ?_ | refine tF (fun h => ?_) fun h => ?_ | refine tG (fun h => ?_) fun h => ?_ | refine tP (fun h => ?_) fun h => ?_ | refine tQ (fun h => ?_) fun h => ?_ | refine tA (fun h => ?_) fun h => ?_ | refine tO (fun h => ?_) fun h => ?_ | refine tU (fun h => ?_) fun h => ?_ | refine tV (fun h => ?_) fun h => ?_ | refine dqT ?_ | refine dqF ?_ | refine den_t rfl ?_ | refine den_f rfl ?_ | refine dqTn ?_ | refine dqFn ?_)
theorem txParse_walk (s : List UInt8) (w : World) (s_l : s.length ≤ 9223372036854775807) (hG : Glob w) :
    Calls Tryz.prog 8 #[.string ⟨s.toArray⟩] w fun e w' => e = .returned (.bool true) ∧ Below w.heap.size w w' :=
  meets_calls (F := Lt w.heap.size) (us := [.string ⟨s.toArray⟩]) rfl (en_of (fn := Tryz.f8) (by kernel_rfl) (by kernel_rfl) (by kernel_rfl)) m_lTxParse ⟨fun _ h => h, hG⟩ (spD_at (f := fun _ => true) (s) trivial)
    (pks_mk_one (.s _ s_l) pks_mk_nil)
end Go.Proofs.YtnklncinjahckaaGreatDoor
