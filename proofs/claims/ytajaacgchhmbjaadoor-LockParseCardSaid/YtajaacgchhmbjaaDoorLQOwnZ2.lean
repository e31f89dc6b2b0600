/- Own texts, put together by wip/bundle.py: VL7, VS4, VU3, VU4, VU5, VL8, VW8. -/
import Derived.Test.YtajaacgchhmbjaaDoorLQOwnB
import Derived.Test.YtajaacgchhmbjaaDoorLQOwnR
import Derived.Test.YtajaacgchhmbjaaDoorLQOwnV3
import Derived.Test.YtajaacgchhmbjaaDoorLQOwnZ1
namespace Go.Proofs.YtajaacgchhmbjaaDoor
open Go.RowKit
open Go.Lib (itoa atoiAll atoiSat)
set_option linter.unusedVariables false
set_option linter.unusedSimpArgs false
set_option maxRecDepth 100000
set_option maxHeartbeats 4000000
section
variable {sp : Nat → Spec} {N : Nat} {E E' : Env} {ks : List (List Dt → Option (List Dt))} {res : Option (List Dt)}
theorem dx_ise {neg : Bool} {a : Atom} {x : Bool} (ha : a.val E = some (.e x)) : denX sp E (.ise neg a) = some (.b (x == neg)) := by simp only [denX, ha]
end
theorem whole_none {w : List UInt8} (h : (atoiOf w).2.is = true) : wholeOf w = none := by
  unfold atoiOf at h
  unfold wholeOf
  cases ha : atoiAll w with
  | ok v => rw [ha] at h; cases h
  | _ => rfl
theorem whole_some {w : List UInt8} (h : (atoiOf w).2.is = false) : wholeOf w = if itoa (atoiOf w).1 = w then some (atoiOf w).1 else none := by
  unfold atoiOf at h ⊢
  unfold wholeOf
  cases ha : atoiAll w with
  | ok v => rfl
  | _ => rw [ha] at h; cases h
theorem nm_get (k : Nat) (h : k < 14) : (opNames.map Dt.s)[(k : Int).toNat]? = some (.s ((opNames[k]?).getD [])) := by
  have hl : opNames.length = 14 := rfl
  rw [Int.toNat_natCast, List.getElem?_map, List.getElem?_eq_getElem (by omega)]
  rfl
theorem kindGo_bd (w : List UInt8) : ∀ (l : List (List UInt8)) (k r : Int), 0 ≤ k → 0 ≤ r → r ≤ 13 → k + l.length ≤ 14 → 0 ≤ kindGo w k r l ∧ kindGo w k r l ≤ 13
  | [], k, r, _, h0, h1, _ => ⟨h0, h1⟩
  | n :: l, k, r, hk, h0, h1, h2 => by
    rw [kindGo]
    simp only [List.length_cons] at h2
    refine kindGo_bd w l (k + 1) _ (by omega) (by split <;> omega) (by split <;> omega) (by omega)
noncomputable def sp_lockParse : Spec := spD (fun _ : List UInt8 => True) fun s => readOf s
theorem sp_lockParse_at (s : List UInt8) : sp_lockParse [.s s] = some [.l 2 ((readOf s).1.map eOp), I (readOf s).2] := spD_at (f := fun s : List UInt8 => readOf s) s trivial
def readGo (acc : List Op) (ws : List (List UInt8)) : List Op × Int := match wordsOp ws with
  | none => ([], 1)
  | some l => if opsCheck (acc ++ l) ≠ 0 then ([], opsCheck (acc ++ l)) else (acc ++ l, 0)
theorem readGo_cons (acc : List Op) (w : List UInt8) (ws : List (List UInt8)) : readGo acc (w :: ws) = match wordOp w with
  | none => ([], 1)
  | some o => readGo (acc ++ [o]) ws := by
  unfold readGo
  rw [wordsOp]
  cases wordOp w with
  | none => rfl
  | some o =>
    cases wordsOp ws with
    | none => rfl
    | some l => simp only [Option.map_some, List.append_assoc, List.singleton_append]
theorem readOf_go (s : List UInt8) : readOf s = if 4000 < (s.length : Int) then ([], 2) else if s = [] then ([], 0) else readGo [] (cutAt 32 s) := by
  unfold readOf readGo
  rfl
theorem readGo_nil (acc : List Op) : readGo acc [] = if opsCheck acc ≠ 0 then ([], opsCheck acc) else (acc, 0) := by
  unfold readGo
  rw [wordsOp]
  simp only [List.append_nil]
theorem wordOp_zero {w : List UInt8} (h : kindOf w = 0) : wordOp w = (wholeOf w).map fun n => ⟨1, n⟩ := if_pos h
theorem wordOp_kind {w : List UInt8} (h : ¬ kindOf w = 0) : wordOp w = some ⟨kindOf w, 0⟩ := if_neg h
theorem kindGo_snoc (w n : List UInt8) : ∀ (l : List (List UInt8)) (k r : Int), kindGo w k r (l ++ [n]) = if n = w ∧ n ≠ [] then k + l.length else kindGo w k r l
  | [], k, r => by simp only [List.nil_append, kindGo, List.length_nil]; split <;> simp
  | m :: l, k, r => by
    rw [List.cons_append, kindGo, kindGo, kindGo_snoc w n l (k + 1)]
    split
    · simp only [List.length_cons]; omega
    · rfl
theorem kind_next (w : List UInt8) (i : Nat) (h : i < 14) : kindGo w 0 0 (opNames.take (i + 1)) = if (opNames[i]?).getD [] = w ∧ (opNames[i]?).getD [] ≠ [] then (i : Int) else kindGo w 0 0 (opNames.take i) := by
  have hl : opNames.length = 14 := rfl
  rw [List.take_add_one, List.getElem?_eq_getElem (by omega)]
  simp only [Option.toList_some, Option.getD_some]
  rw [kindGo_snoc, List.length_take]
  split
  · omega
  · rfl
attribute [local irreducible] den denX denXs holdXs
attribute [local irreducible] specOf spD ordP itoa opsCheck openOf joinC sp_lockNames readGo atoiOf cutAt wordOp kindGo kindOf
def t_lockParse_0 : T :=
  .ite (.v 32) (.lets [.bin .add (.v 26) (.c (.i .i64 1))] [] (.again 1 [.v 33, .v 26, .v 28])) (.lets [.bin .add (.v 26) (.c (.i .i64 1))] [] (.again 1 [.v 33, .v 27, .v 28]))
def t_lockParse_1 : T :=
  .lets [.bin .eql (.v 30) (.v 11)] [] (.ite (.v 31) (.lets [.bin .neq (.v 30) (.c (.s []))] [] t_lockParse_0) (.lets [.bin .add (.v 26) (.c (.i .i64 1))] [] (.again 1 [.v 32, .v 27,
  .v 28])))
def t_lockParse_2 : T :=
  .lets [.mk 2 [[.c (.i .i64 1), .v 31]]] [] (.lets [.app 2 (.v 8) (.v 36)] [] (.lets [.bin .add (.v 9) (.c (.i .i64 1))] [] (.again 0 [.v 6, .v 7, .v 37, .v 38])))
def t_lockParse_3 : T :=
  .ite (.v 33) (.ret [.c (.nil 2), .c (.i .i64 1)]) (.lets [.call 31 [.v 31] 0] [] (.lets [.bin .neq (.v 34) (.v 11)] [] (.ite (.v 35) (.ret [.c (.nil 2), .c (.i .i64 1)])
  t_lockParse_2)))
def t_lockParse_4 : T :=
  .ite (.v 30) (.lets [.call 42 [.v 11] 0, .call 42 [.v 11] 1] [] (.lets [.ise true (.v 32)] [] t_lockParse_3)) (.lets [.mk 2 [[.v 27, .v 28]]] [] (.lets [.app 2 (.v 8) (.v 31)] []
  (.lets [.bin .add (.v 9) (.c (.i .i64 1))] [] (.again 0 [.v 6, .v 7, .v 32, .v 33]))))
def t_lockParse_5 : T :=
  .ite (.v 29) (.lets [.sel [.v 12, .v 13, .v 14, .v 15, .v 16, .v 17, .v 18, .v 19, .v 20, .v 21, .v 22, .v 23, .v 24, .v 25] (.v 26)] [] t_lockParse_1) (.lets [.bin .eql (.v 27) (.c
  (.i .i64 0))] [] t_lockParse_4)
def t_lockParse_6 : T :=
  .lets [.call 33 [] 0, .call 33 [] 1, .call 33 [] 2, .call 33 [] 3, .call 33 [] 4, .call 33 [] 5, .call 33 [] 6, .call 33 [] 7, .call 33 [] 8, .call 33 [] 9, .call 33 [] 10, .call 33
  [] 11, .call 33 [] 12, .call 33 [] 13] [] (.loop [.c (.i .i64 0), .c (.i .i64 0), .c (.i .i64 0)] (.lets [.bin .lss (.v 26) (.c (.i .i64 14))] [] t_lockParse_5))
def t_lockParse_7 : T :=
  .ite (.v 10) (.lets [] [.inr 1 (.v 4) (.v 9)] (.lets [.idx (.v 4) (.v 9) 0] [] t_lockParse_6)) (.lets [.call 7 [.v 8] 0] [] (.lets [.bin .neq (.v 11) (.c (.i .i64 0))] [] (.ite (.v
  12) (.ret [.c (.nil 2), .v 11]) (.ret [.v 8, .c (.i .i64 0)]))))
def t_lockParse_8 : T :=
  .lets [.call 41 [.v 0, .c (.s [32])] 0] [] (.lets [.len (.v 4)] [] (.loop [.c (.nil 2), .c (.i .i64 0), .c (.nil 2), .c (.i .i64 0)] (.lets [.bin .lss (.v 9) (.v 5)] []
  t_lockParse_7)))
def t_lockParse_9 : T :=
  .lets [.bin .gtr (.v 1) (.c (.i .i64 4000))] [] (.ite (.v 2) (.ret [.c (.nil 2), .c (.i .i64 2)]) (.lets [.bin .eql (.v 0) (.c (.s []))] [] (.ite (.v 3) (.ret [.c (.nil 2), .c (.i
  .i64 0)]) t_lockParse_8)))
def t_lockParse : T :=
  .lets [.slen (.v 0)] [] t_lockParse_9
attribute [local irreducible] sp_atoi sp_itoa sp_lockCheck sp_strSplit
theorem m_lockParse : Meets Tryd.prog sp_lockParse 23 ⟨[.one], [(false, [.fresh 40 2]), (false, [.scal])], false⟩ := by
  refine meets_fast (sp := (spsOf [(7, sp_lockCheck), (31, sp_itoa), (33, sp_lockNames), (41, sp_strSplit), (42, sp_atoi)])) (sigs := sigsA) (cut := []) (hints := [⟨7, [.r 2 40 2, .t 3, .r 4 40 2, .t 21]⟩, ⟨11, [.t 27, .o 7]⟩]) (fn := Tryd.f23) (t := t_lockParse) (by kernel_rfl) (by kernel_rfl) (by kernel_rfl) ?_ ?_
  · exact (sig_of (L := [(7, sp_lockCheck), (31, sp_itoa), (33, sp_lockNames), (41, sp_strSplit), (42, sp_atoi)]) ⟨sig_at rfl m_lockCheck, sig_at rfl m_itoa, sig_at rfl m_lockNames, sig_at rfl m_strSplit, sig_at rfl m_atoi, trivial⟩)
  · rintro ds rs hok h
    obtain ⟨s, -, rfl, rfl⟩ := spD_some h
    clear h
    refine ⟨⟨s.length + 20, ?_⟩, ?_⟩
    · show den _ _ t_lockParse [.s s] [] = ret (readOf s)
      rw [readOf_go]
      unfold t_lockParse
      repeat' (first | refine dq1 ?_ | refine dqc ?_ | refine dqm ?_ | exact den_ret rfl rfl | refine tR (fun h => ?_) fun h => ?_ | refine tB (fun h => ?_) fun h => ?_ | refine tC (fun h => ?_) fun h => ?_ | refine tN (fun h => ?_) fun h => ?_ | refine tF (fun h => ?_) fun h => ?_ | refine tG (fun h => ?_) fun h => ?_ | refine tP (fun h => ?_) fun h => ?_ | refine tQ (fun h => ?_) fun h => ?_ | refine tA (fun h => ?_) fun h => ?_ | refine tO (fun h => ?_) fun h => ?_ | refine tU (fun h => ?_) fun h => ?_ | refine tV (fun h => ?_) fun h => ?_ | refine dqT ?_ | refine dqF ?_ | refine den_t rfl ?_ | refine den_f rfl ?_ | refine dqTn ?_ | refine dqFn ?_)
      have hs4 : s.length ≤ 4000 := by omega
      have hcl := cutAt_len 32 s
      repeat' (first | refine dq1 ?_ | refine dqc ?_ | refine dqm ?_ | refine dqk rfl (sp_strSplit_at s 32 (by omega)) ?_ | refine dqK rfl (sp_strSplit_at s 32 (by omega)) ?_ | exact den_ret rfl rfl | refine tR (fun h => ?_) fun h => ?_ | refine tB (fun h => ?_) fun h => ?_ | refine tC (fun h => ?_) fun h => ?_ | refine tN (fun h => ?_) fun h => ?_ | refine tF (fun h => ?_) fun h => ?_ | refine tG (fun h => ?_) fun h => ?_ | refine tP (fun h => ?_) fun h => ?_ | refine tQ (fun h => ?_) fun h => ?_ | refine tA (fun h => ?_) fun h => ?_ | refine tO (fun h => ?_) fun h => ?_ | refine tU (fun h => ?_) fun h => ?_ | refine tV (fun h => ?_) fun h => ?_ | refine dqT ?_ | refine dqF ?_ | refine den_t rfl ?_ | refine den_f rfl ?_ | refine dqTn ?_ | refine dqFn ?_)
      (refine den_range (fun (a : List Op) k => [.l 2 [], I 0, .l 2 (a.map eOp), I k]) (fun (a : List Op) _ (r : List (List UInt8)) => readGo a r) (fun a k => a.length = k) [] (cutAt 32 s) ?_ ?_ ?_ ?_ ?_; rfl; exact rfl; omega)
      · rintro a k w r hx hd hk ha again hag
        have hw := hcl.2 w (List.mem_of_getElem? hx)
        rw [readGo_cons]
        have hk0 := (kindGo_bd w opNames 0 0 (by decide) (by decide) (by decide) (by decide)).1
        repeat' (first | refine dq1 ?_ | refine dqc ?_ | refine dqm ?_ | refine dqk rfl (sp_lockNames_at) ?_ | refine dqK rfl (sp_lockNames_at) ?_ | exact den_ret rfl rfl | refine tR (fun h => ?_) fun h => ?_ | refine tB (fun h => ?_) fun h => ?_ | refine tC (fun h => ?_) fun h => ?_ | refine tN (fun h => ?_) fun h => ?_ | refine tF (fun h => ?_) fun h => ?_ | refine tG (fun h => ?_) fun h => ?_ | refine tP (fun h => ?_) fun h => ?_ | refine tQ (fun h => ?_) fun h => ?_ | refine tA (fun h => ?_) fun h => ?_ | refine tO (fun h => ?_) fun h => ?_ | refine tU (fun h => ?_) fun h => ?_ | refine tV (fun h => ?_) fun h => ?_ | refine dqT ?_ | refine dqF ?_ | refine den_t rfl ?_ | refine den_f rfl ?_ | refine dqTn ?_ | refine dqFn ?_)
        (refine den_loop' (st := fun i => [I i, I (kindGo w 0 0 (opNames.take i)), I 0]) (n := 14) (by with_unfolding_all rfl) (by omega) ?_ ?_)
        · intro i hi again' hag'
          have hn := nm_get i hi
          have hag' : again' [I ((i : Int) + 1), I (kindGo w 0 0 (opNames.take (i + 1))), I 0] = _ := hag'
          rw [kind_next w i hi] at hag'
          generalize (opNames[i]?).getD [] = nm at *
          repeat' (first | refine dq1 ?_ | refine dqc ?_ | refine dqm ?_ | refine den_let1 (dx_sel rfl rfl (by omega) hn) ?_ | exact den_ret rfl rfl | refine tR (fun h => ?_) fun h => ?_ | refine tB (fun h => ?_) fun h => ?_ | refine tC (fun h => ?_) fun h => ?_ | refine tN (fun h => ?_) fun h => ?_ | refine tF (fun h => ?_) fun h => ?_ | refine tG (fun h => ?_) fun h => ?_ | refine tP (fun h => ?_) fun h => ?_ | refine tQ (fun h => ?_) fun h => ?_ | refine tA (fun h => ?_) fun h => ?_ | refine tO (fun h => ?_) fun h => ?_ | refine tU (fun h => ?_) fun h => ?_ | refine tV (fun h => ?_) fun h => ?_ | refine dqT ?_ | refine dqF ?_ | refine den_t rfl ?_ | refine den_f rfl ?_ | refine dqTn ?_ | refine dqFn ?_)
          refine den_sp rfl (fun h1 => ?_) (fun h1 => ?_)
          · repeat' (first | refine dq1 ?_ | refine dqc ?_ | refine dqm ?_ | exact den_ret rfl rfl | refine tR (fun h => ?_) fun h => ?_ | refine tB (fun h => ?_) fun h => ?_ | refine tC (fun h => ?_) fun h => ?_ | refine tN (fun h => ?_) fun h => ?_ | refine tF (fun h => ?_) fun h => ?_ | refine tG (fun h => ?_) fun h => ?_ | refine tP (fun h => ?_) fun h => ?_ | refine tQ (fun h => ?_) fun h => ?_ | refine tA (fun h => ?_) fun h => ?_ | refine tO (fun h => ?_) fun h => ?_ | refine tU (fun h => ?_) fun h => ?_ | refine tV (fun h => ?_) fun h => ?_ | refine dqT ?_ | refine dqF ?_ | refine den_t rfl ?_ | refine den_f rfl ?_ | refine dqTn ?_ | refine dqFn ?_)
            refine den_sp rfl (fun h2 => ?_) (fun h2 => ?_)
            · rw [if_pos ⟨h1, h2⟩] at hag'
              repeat' (first | refine dq1 ?_ | refine dqc ?_ | refine dqm ?_ | exact den_ret rfl rfl | refine tR (fun h => ?_) fun h => ?_ | refine tB (fun h => ?_) fun h => ?_ | refine tC (fun h => ?_) fun h => ?_ | refine tN (fun h => ?_) fun h => ?_ | refine tF (fun h => ?_) fun h => ?_ | refine tG (fun h => ?_) fun h => ?_ | refine tP (fun h => ?_) fun h => ?_ | refine tQ (fun h => ?_) fun h => ?_ | refine tA (fun h => ?_) fun h => ?_ | refine tO (fun h => ?_) fun h => ?_ | refine tU (fun h => ?_) fun h => ?_ | refine tV (fun h => ?_) fun h => ?_ | refine dqT ?_ | refine dqF ?_ | refine den_t rfl ?_ | refine den_f rfl ?_ | refine dqTn ?_ | refine dqFn ?_)
              exact den_again rfl rfl hag'
            · rw [if_neg (fun h => h2 h.2)] at hag'
              repeat' (first | refine dq1 ?_ | refine dqc ?_ | refine dqm ?_ | exact den_ret rfl rfl | refine tR (fun h => ?_) fun h => ?_ | refine tB (fun h => ?_) fun h => ?_ | refine tC (fun h => ?_) fun h => ?_ | refine tN (fun h => ?_) fun h => ?_ | refine tF (fun h => ?_) fun h => ?_ | refine tG (fun h => ?_) fun h => ?_ | refine tP (fun h => ?_) fun h => ?_ | refine tQ (fun h => ?_) fun h => ?_ | refine tA (fun h => ?_) fun h => ?_ | refine tO (fun h => ?_) fun h => ?_ | refine tU (fun h => ?_) fun h => ?_ | refine tV (fun h => ?_) fun h => ?_ | refine dqT ?_ | refine dqF ?_ | refine den_t rfl ?_ | refine den_f rfl ?_ | refine dqTn ?_ | refine dqFn ?_)
              exact den_again rfl rfl hag'
          · rw [if_neg (fun h => h1 h.1)] at hag'
            repeat' (first | refine dq1 ?_ | refine dqc ?_ | refine dqm ?_ | exact den_ret rfl rfl | refine tR (fun h => ?_) fun h => ?_ | refine tB (fun h => ?_) fun h => ?_ | refine tC (fun h => ?_) fun h => ?_ | refine tN (fun h => ?_) fun h => ?_ | refine tF (fun h => ?_) fun h => ?_ | refine tG (fun h => ?_) fun h => ?_ | refine tP (fun h => ?_) fun h => ?_ | refine tQ (fun h => ?_) fun h => ?_ | refine tA (fun h => ?_) fun h => ?_ | refine tO (fun h => ?_) fun h => ?_ | refine tU (fun h => ?_) fun h => ?_ | refine tV (fun h => ?_) fun h => ?_ | refine dqT ?_ | refine dqF ?_ | refine den_t rfl ?_ | refine den_f rfl ?_ | refine dqTn ?_ | refine dqFn ?_)
            exact den_again rfl rfl hag'
        · intro again'
          have ek : kindGo w 0 0 (opNames.take 14) = kindOf w := by with_unfolding_all rfl
          simp only [ek]
          have hko : 0 ≤ kindOf w := by with_unfolding_all exact hk0
          have a9 := sp_atoi_at w (by omega)
          repeat' (first | refine dq1 ?_ | refine dqc ?_ | refine dqm ?_ | exact den_ret rfl rfl | refine tR (fun h => ?_) fun h => ?_ | refine tB (fun h => ?_) fun h => ?_ | refine tC (fun h => ?_) fun h => ?_ | refine tN (fun h => ?_) fun h => ?_ | refine tF (fun h => ?_) fun h => ?_ | refine tG (fun h => ?_) fun h => ?_ | refine tP (fun h => ?_) fun h => ?_ | refine tQ (fun h => ?_) fun h => ?_ | refine tA (fun h => ?_) fun h => ?_ | refine tO (fun h => ?_) fun h => ?_ | refine tU (fun h => ?_) fun h => ?_ | refine tV (fun h => ?_) fun h => ?_ | refine dqT ?_ | refine dqF ?_ | refine den_t rfl ?_ | refine den_f rfl ?_ | refine dqTn ?_ | refine dqFn ?_)
          refine den_sp rfl (fun h1 => ?_) (fun h1 => ?_)
          · rw [wordOp_zero h1]
            cases hi : (atoiOf w).2.is with
            | true =>
              rw [whole_none hi]
              rw [hi] at a9
              repeat' (first | refine dq1 ?_ | refine dqc ?_ | refine dqm ?_ | refine dqk rfl (a9) ?_ | refine dqK rfl (a9) ?_ | refine den_let1 (dx_ise rfl) ?_ | exact den_ret rfl rfl | refine tR (fun h => ?_) fun h => ?_ | refine tB (fun h => ?_) fun h => ?_ | refine tC (fun h => ?_) fun h => ?_ | refine tN (fun h => ?_) fun h => ?_ | refine tF (fun h => ?_) fun h => ?_ | refine tG (fun h => ?_) fun h => ?_ | refine tP (fun h => ?_) fun h => ?_ | refine tQ (fun h => ?_) fun h => ?_ | refine tA (fun h => ?_) fun h => ?_ | refine tO (fun h => ?_) fun h => ?_ | refine tU (fun h => ?_) fun h => ?_ | refine tV (fun h => ?_) fun h => ?_ | refine dqT ?_ | refine dqF ?_ | refine den_t rfl ?_ | refine den_f rfl ?_ | refine dqTn ?_ | refine dqFn ?_)
            | false =>
              rw [whole_some hi]
              rw [hi] at a9
              generalize (atoiOf w).1 = n at *
              repeat' (first | refine dq1 ?_ | refine dqc ?_ | refine dqm ?_ | refine dqk rfl (a9) ?_ | refine dqK rfl (a9) ?_ | refine dqk rfl (sp_itoa_at _) ?_ | refine dqK rfl (sp_itoa_at _) ?_ | refine den_let1 (dx_ise rfl) ?_ | exact den_ret rfl rfl | refine tR (fun h => ?_) fun h => ?_ | refine tB (fun h => ?_) fun h => ?_ | refine tC (fun h => ?_) fun h => ?_ | refine tN (fun h => ?_) fun h => ?_ | refine tF (fun h => ?_) fun h => ?_ | refine tG (fun h => ?_) fun h => ?_ | refine tP (fun h => ?_) fun h => ?_ | refine tQ (fun h => ?_) fun h => ?_ | refine tA (fun h => ?_) fun h => ?_ | refine tO (fun h => ?_) fun h => ?_ | refine tU (fun h => ?_) fun h => ?_ | refine tV (fun h => ?_) fun h => ?_ | refine dqT ?_ | refine dqF ?_ | refine den_t rfl ?_ | refine den_f rfl ?_ | refine dqTn ?_ | refine dqFn ?_)
              refine den_sp rfl (fun h2 => ?_) (fun h2 => ?_)
              · rw [if_neg h2]
                repeat' (first | refine dq1 ?_ | refine dqc ?_ | refine dqm ?_ | exact den_ret rfl rfl | refine tR (fun h => ?_) fun h => ?_ | refine tB (fun h => ?_) fun h => ?_ | refine tC (fun h => ?_) fun h => ?_ | refine tN (fun h => ?_) fun h => ?_ | refine tF (fun h => ?_) fun h => ?_ | refine tG (fun h => ?_) fun h => ?_ | refine tP (fun h => ?_) fun h => ?_ | refine tQ (fun h => ?_) fun h => ?_ | refine tA (fun h => ?_) fun h => ?_ | refine tO (fun h => ?_) fun h => ?_ | refine tU (fun h => ?_) fun h => ?_ | refine tV (fun h => ?_) fun h => ?_ | refine dqT ?_ | refine dqF ?_ | refine den_t rfl ?_ | refine den_f rfl ?_ | refine dqTn ?_ | refine dqFn ?_)
              · have h2 := Decidable.not_not.1 h2
                rw [if_pos h2]
                simp only [Option.map_some]
                repeat' (first | refine dq1 ?_ | refine dqc ?_ | refine dqm ?_ | refine den_let1 (den_mk rfl rfl (by simp)) ?_ | refine den_let1 (dx_app1 (x := ⟨1, n⟩) (fun _ => rfl) rfl rfl (by omega)) ?_ | exact den_ret rfl rfl | refine tR (fun h => ?_) fun h => ?_ | refine tB (fun h => ?_) fun h => ?_ | refine tC (fun h => ?_) fun h => ?_ | refine tN (fun h => ?_) fun h => ?_ | refine tF (fun h => ?_) fun h => ?_ | refine tG (fun h => ?_) fun h => ?_ | refine tP (fun h => ?_) fun h => ?_ | refine tQ (fun h => ?_) fun h => ?_ | refine tA (fun h => ?_) fun h => ?_ | refine tO (fun h => ?_) fun h => ?_ | refine tU (fun h => ?_) fun h => ?_ | refine tV (fun h => ?_) fun h => ?_ | refine dqT ?_ | refine dqF ?_ | refine den_t rfl ?_ | refine den_f rfl ?_ | refine dqTn ?_ | refine dqFn ?_)
                exact den_again rfl rfl (hag (a ++ [⟨1, n⟩]) (by rw [List.length_append, ha]; rfl))
          · rw [wordOp_kind h1]
            simp only
            repeat' (first | refine dq1 ?_ | refine dqc ?_ | refine dqm ?_ | refine den_let1 (den_mk rfl rfl (by simp)) ?_ | refine den_let1 (dx_app1 (x := ⟨kindOf w, 0⟩) (fun _ => rfl) rfl rfl (by omega)) ?_ | exact den_ret rfl rfl | refine tR (fun h => ?_) fun h => ?_ | refine tB (fun h => ?_) fun h => ?_ | refine tC (fun h => ?_) fun h => ?_ | refine tN (fun h => ?_) fun h => ?_ | refine tF (fun h => ?_) fun h => ?_ | refine tG (fun h => ?_) fun h => ?_ | refine tP (fun h => ?_) fun h => ?_ | refine tQ (fun h => ?_) fun h => ?_ | refine tA (fun h => ?_) fun h => ?_ | refine tO (fun h => ?_) fun h => ?_ | refine tU (fun h => ?_) fun h => ?_ | refine tV (fun h => ?_) fun h => ?_ | refine dqT ?_ | refine dqF ?_ | refine den_t rfl ?_ | refine den_f rfl ?_ | refine dqTn ?_ | refine dqFn ?_)
            exact den_again rfl rfl (hag (a ++ [⟨kindOf w, 0⟩]) (by rw [List.length_append, ha]; rfl))
      · rintro a ha again
        rw [readGo_nil]
        repeat' (first | refine dq1 ?_ | refine dqc ?_ | refine dqm ?_ | refine dqk rfl (sp_lockCheck_at _) ?_ | refine dqK rfl (sp_lockCheck_at _) ?_ | exact den_ret rfl rfl | refine tR (fun h => ?_) fun h => ?_ | refine tB (fun h => ?_) fun h => ?_ | refine tC (fun h => ?_) fun h => ?_ | refine tN (fun h => ?_) fun h => ?_ | refine tF (fun h => ?_) fun h => ?_ | refine tG (fun h => ?_) fun h => ?_ | refine tP (fun h => ?_) fun h => ?_ | refine tQ (fun h => ?_) fun h => ?_ | refine tA (fun h => ?_) fun h => ?_ | refine tO (fun h => ?_) fun h => ?_ | refine tU (fun h => ?_) fun h => ?_ | refine tV (fun h => ?_) fun h => ?_ | refine dqT ?_ | refine dqF ?_ | refine den_t rfl ?_ | refine den_f rfl ?_ | refine dqTn ?_ | refine dqFn ?_)
    · intro i d hi hd
      match i, hi, hd with
      | 0, hi, _ => simp [cfsOf] at hi
      | 1, _, hd => simp only [Enc.e, eInt, List.cons_append, List.nil_append, List.getElem?_cons_zero, List.getElem?_cons_succ, Option.some.injEq] at hd; subst hd; rfl
      | i + 2, hi, hd => simp [cfsOf] at hi
end Go.Proofs.YtajaacgchhmbjaaDoor
namespace Go.Proofs.YtajaacgchhmbjaaDoor
open Go.RowKit
set_option linter.unusedVariables false
set_option linter.unusedSimpArgs false
noncomputable def sp_idxStr : Spec := spD (fun _ : List (List UInt8) × List UInt8 => True) fun x => idx x.1 x.2
theorem sp_idxStr_at (a : List (List UInt8)) (b : List UInt8) : sp_idxStr [.l 1 (a.map eStr), .s b] = some [I (idx a b)] := spD_at (f := fun x : List (List UInt8) × List UInt8 => idx x.1 x.2) (a, b) trivial
theorem m_idxStr : Meets Tryd.prog sp_idxStr 47 ⟨[.one, .one], [(false, [.scal])], true⟩ :=
  meets_libI rfl (en_of (fn := Tryd.f47) (by kernel_rfl) (by kernel_rfl) (by kernel_rfl)) fun ⟨a, b⟩ _ W F us hF h => by
    obtain ⟨v, us, rfl, h1, h⟩ := pks_one h
    obtain ⟨v2, us, rfl, h2, h⟩ := pks_one h
    obtain rfl := pks_nil h
    obtain ⟨A, n, c, rfl, k1⟩ := rep_rds she_str h1
    obtain ⟨rfl, k2⟩ := rep_str h2
    have hl : a.length ≤ 9223372036854775807 := by have h1 := k1.1; have h2 := k1.2.1; have h3 := k1.2.2.1; simp only at h1 h2 h3; omega
    have hb := idx_bd a b
    exact ⟨⟨by simp only; omega, by simp only at hb ⊢; omega⟩, (index_str a b A n c W F k1).mono fun e w' h => ⟨h.1, h.2 ▸ Below.refl _ _⟩⟩
end Go.Proofs.YtajaacgchhmbjaaDoor
namespace Go.Proofs.YtajaacgchhmbjaaDoor
open Go.RowKit
set_option linter.unusedVariables false
set_option linter.unusedSimpArgs false
set_option maxRecDepth 100000
set_option maxHeartbeats 4000000
attribute [local irreducible] specOf spD ordP
end Go.Proofs.YtajaacgchhmbjaaDoor
namespace Go.Proofs.YtajaacgchhmbjaaDoor
open Go.RowKit
set_option linter.unusedVariables false
set_option linter.unusedSimpArgs false
set_option maxRecDepth 100000
set_option maxHeartbeats 4000000
theorem sp_eqOps_at (l m : List Op) : sp_eqOps [.l 2 (l.map eOp), .l 2 (m.map eOp)] = some [.b (decide (l = m))] := spD_at (f := fun x : List Op × List Op => decide (x.1 = x.2)) (l, m) trivial
theorem m_eqOps : Meets Tryd.prog sp_eqOps 24 ⟨[.one, .one], [(false, [.scal])], true⟩ :=
  meets_scal2 (e := fun x : { x : List Op × List Op // True } => Enc.e x.1) (d := fun x => .b (decide (x.1.1 = x.1.2))) rfl (en_of (fn := Tryd.f24) (by kernel_rfl) (by kernel_rfl) (by kernel_rfl)) (fun _ => rfl) fun x W F us hF h => by
    obtain ⟨v, us, rfl, h1, h⟩ := pks_one h
    obtain ⟨v2, us, rfl, h2, h⟩ := pks_one h
    obtain rfl := pks_nil h
    obtain ⟨A, n, c, rfl, k1⟩ := rep_rds she_op h1
    obtain ⟨A2, n2, c2, rfl, k2⟩ := rep_rds she_op h2
    refine (equal_op x.1.1 x.1.2 A A2 n c n2 c2 W F F k1 k2).mono ?_
    rintro r W' ⟨rfl, m, rfl⟩
    exact ⟨_, rfl, below_drewN (Below.refl _ _) m, .b _⟩
attribute [local irreducible] specOf spD ordP
end Go.Proofs.YtajaacgchhmbjaaDoor
namespace Go.Proofs.YtajaacgchhmbjaaDoor
open Go.RowKit
set_option linter.unusedVariables false
set_option linter.unusedSimpArgs false
set_option maxRecDepth 100000
set_option maxHeartbeats 4000000
noncomputable def sp_rCheckOps : Spec := spD (fun _ : List Op => True) fun l => opsCheck l
theorem sp_rCheckOps_at (l : List Op) : sp_rCheckOps [.l 2 (l.map eOp)] = some [I (opsCheck l)] := spD_at (f := fun l : List Op => opsCheck l) l trivial
theorem m_rCheckOps : Meets Tryd.prog sp_rCheckOps 12 ⟨[.one], [(false, [.scal])], true⟩ :=
  meets_scal2 (e := fun x : { x : List Op // True } => Enc.e x.1) (d := fun x => I (opsCheck x.1)) rfl (en_of (fn := Tryd.f12) (by kernel_rfl) (by kernel_rfl) (by kernel_rfl)) (fun _ => rfl) fun x W F us hF h => by
    obtain ⟨v, us, rfl, h1, h⟩ := pks_one h
    obtain rfl := pks_nil h
    obtain ⟨A, n, c, rfl, k1⟩ := rep_rds she_op h1
    exact (refOps_any x.1 A n c W F k1 hF).mono fun e w' h => ⟨_, h.1, h.2, .i _ _ (wrap_i64 (er_ops x.1).i64)⟩
attribute [local irreducible] specOf spD ordP
end Go.Proofs.YtajaacgchhmbjaaDoor
namespace Go.Proofs.YtajaacgchhmbjaaDoor
open Go.RowKit
open Go.Lib (itoa atoiAll atoiSat)
set_option linter.unusedVariables false
set_option linter.unusedSimpArgs false
set_option maxRecDepth 100000
set_option maxHeartbeats 4000000
def wordsText : List UInt8 := [45, 32, 45, 32, 100, 117, 112, 32, 115, 119, 97, 112, 32, 100, 114, 111, 112, 32, 97, 100, 100, 32, 115, 117, 98, 32, 115, 97, 109, 101, 32, 108, 101, 115, 115, 32, 110, 111, 116, 32, 97, 110, 100, 32, 118, 101, 114, 105, 102, 121, 32, 104, 101, 105, 103, 104, 116, 32, 109, 105, 120]
def wordsL : List (List UInt8) := [45] :: [45] :: opNames.drop 2
theorem fields_words : Go.Lib.fields wordsText = wordsL := by decide +kernel
theorem words_ascii : ∀ b ∈ wordsText, b.toNat < 128 := by decide
theorem words_short : ∀ y ∈ wordsL, y.length ≤ 1000000 := by decide
theorem sp_words : sp_strFields [.s wordsText] = some [.l 1 (wordsL.map eStr)] := by
  have h := sp_strFields_at wordsText ⟨by decide, words_ascii, by rw [fields_words]; decide, by rw [fields_words]; exact words_short⟩
  rw [fields_words] at h
  exact h
theorem wordsL_at {k : Int} (h0 : 2 ≤ k) (h1 : k ≤ 13) : wordsL[k.toNat]? = some ((opNames[k.toNat]?).getD []) := by
  have hk : k = 2 ∨ k = 3 ∨ k = 4 ∨ k = 5 ∨ k = 6 ∨ k = 7 ∨ k = 8 ∨ k = 9 ∨ k = 10 ∨ k = 11 ∨ k = 12 ∨ k = 13 := by omega
  rcases hk with rfl | rfl | rfl | rfl | rfl | rfl | rfl | rfl | rfl | rfl | rfl | rfl <;> rfl
def joinTail (acc : List UInt8) (first : Bool) : List (List UInt8) → List UInt8
  | [] => acc
  | x :: r => joinTail (if first then acc ++ x else acc ++ [32] ++ x) false r
theorem joinTail_join : ∀ (r : List (List UInt8)) (acc : List UInt8), joinTail acc false r = acc ++ (match r with | [] => [] | _ => 32 :: joinC 32 r)
  | [], acc => by simp [joinTail]
  | x :: r, acc => by
    rw [joinTail, joinTail_join r]
    cases r with
    | nil => simp [joinC]
    | cons y r => simp [joinC]
theorem joinTail_all (l : List (List UInt8)) : joinTail [] true l = joinC 32 l := by
  cases l with
  | nil => rfl
  | cons x r =>
    rw [joinTail, joinTail_join]
    cases r with
    | nil => simp [joinC]
    | cons y r => simp [joinC]
noncomputable def sp_rOpsText : Spec := spD (fun l : List Op => opsCheck l = 0) fun l => opsText l
theorem sp_rOpsText_at (l : List Op) (h : opsCheck l = 0) : sp_rOpsText [.l 2 (l.map eOp)] = some [.s (opsText l)] := spD_at (p := fun l : List Op => opsCheck l = 0) (f := fun l : List Op => opsText l) l h
attribute [local irreducible] specOf spD ordP itoa opsCheck openOf joinC sp_lockNames readGo atoiOf cutAt kindGo kindOf joinTail
attribute [local irreducible] den denX denXs holdXs
def t_rOpsText_0 : T :=
  .lets [] [.inr 1 (.v 1) (.v 6)] (.lets [.idx (.v 1) (.v 6) 0] [] (.lets [.bin .add (.v 9) (.v 11)] [] (.lets [.bin .add (.v 4) (.c (.i .i64 1))] [] (.again 0 [.v 12, .v 13]))))
def t_rOpsText_1 : T :=
  .ite (.v 10) (.lets [.call 31 [.v 7] 0] [] (.lets [.bin .add (.v 9) (.v 11)] [] (.lets [.bin .add (.v 4) (.c (.i .i64 1))] [] (.again 0 [.v 12, .v 13])))) t_rOpsText_0
def t_rOpsText_2 : T :=
  .lets [] [.inr 1 (.v 1) (.v 6)] (.lets [.idx (.v 1) (.v 6) 0] [] (.lets [.bin .add (.v 3) (.v 10)] [] (.lets [.bin .add (.v 4) (.c (.i .i64 1))] [] (.again 0 [.v 11, .v 12]))))
def t_rOpsText_3 : T :=
  .ite (.v 9) (.lets [.call 31 [.v 7] 0] [] (.lets [.bin .add (.v 3) (.v 10)] [] (.lets [.bin .add (.v 4) (.c (.i .i64 1))] [] (.again 0 [.v 11, .v 12])))) t_rOpsText_2
def t_rOpsText_4 : T :=
  .ite (.v 8) (.lets [.bin .add (.v 3) (.c (.s [32]))] [] (.lets [.bin .eql (.v 6) (.c (.i .i64 1))] [] t_rOpsText_1)) (.lets [.bin .eql (.v 6) (.c (.i .i64 1))] [] t_rOpsText_3)
def t_rOpsText_5 : T :=
  .ite (.v 5) (.lets [] [.inr 2 (.v 0) (.v 4)] (.lets [.idx (.v 0) (.v 4) 0, .idx (.v 0) (.v 4) 1] [] (.lets [.bin .gtr (.v 4) (.c (.i .i64 0))] [] t_rOpsText_4))) (.ret [.v 3])
def t_rOpsText : T :=
  .lets [.call 45 [.c (.s [45, 32, 45, 32, 100, 117, 112, 32, 115, 119, 97, 112, 32, 100, 114, 111, 112, 32, 97, 100, 100, 32, 115, 117, 98, 32, 115, 97, 109, 101, 32, 108, 101, 115,
  115, 32, 110, 111, 116, 32, 97, 110, 100, 32, 118, 101, 114, 105, 102, 121, 32, 104, 101, 105, 103, 104, 116, 32, 109, 105, 120])] 0] [] (.lets [.len (.v 0)] [] (.loop [.c (.s []),
  .c (.i .i64 0)] (.lets [.bin .lss (.v 4) (.v 2)] [] t_rOpsText_5)))
def t_rWhole_0 : T :=
  .lets [.ise false (.v 2)] [] (.ite (.v 3) (.lets [.call 43 [.v 1, .c (.i .i64 10)] 0] [] (.lets [.bin .eql (.v 4) (.v 0)] [] (.ret [.v 1, .v 5]))) (.ret [.v 1, .c (.b false)]))
def t_rWhole : T :=
  .lets [.call 44 [.v 0, .c (.i .i64 10), .c (.i .i64 64)] 0, .call 44 [.v 0, .c (.i .i64 10), .c (.i .i64 64)] 1] [] t_rWhole_0
def t_rReadOps_0 : T :=
  .lets [.mk 2 [[.v 11, .c (.i .i64 0)]]] [] (.lets [.app 2 (.v 5) (.v 15)] [] (.lets [.bin .add (.v 8) (.c (.i .i64 1))] [] (.again 0 [.v 16, .v 6, .v 7, .v 17])))
def t_rReadOps_1 : T :=
  .lets [.mk 2 [[.c (.i .i64 1), .v 12]]] [] (.lets [.app 2 (.v 5) (.v 15)] [] (.lets [.bin .add (.v 8) (.c (.i .i64 1))] [] (.again 0 [.v 16, .v 6, .v 7, .v 17])))
def t_rReadOps_2 : T :=
  .lets [.call 56 [.v 10] 0, .call 56 [.v 10] 1] [] (.lets [.bin .geq (.v 11) (.c (.i .i64 2))] [] (.ite (.v 14) t_rReadOps_0 (.ite (.v 13) t_rReadOps_1 (.ret [.c (.nil 2), .c (.i
  .i64 1)]))))
def t_rReadOps_3 : T :=
  .ite (.v 9) (.lets [] [.inr 1 (.v 3) (.v 8)] (.lets [.idx (.v 3) (.v 8) 0] [] (.lets [.call 52 [.v 2, .v 10] 0] [] t_rReadOps_2))) (.lets [.call 21 [.v 5] 0] [] (.lets [.bin .neq
  (.v 10) (.c (.i .i64 0))] [] (.ite (.v 11) (.ret [.c (.nil 2), .v 10]) (.ret [.v 5, .c (.i .i64 0)]))))
def t_rReadOps_4 : T :=
  .lets [.call 41 [.v 0, .c (.s [32])] 0] [] (.lets [.len (.v 3)] [] (.loop [.c (.nil 2), .c (.nil 2), .c (.i .i64 0), .c (.i .i64 0)] (.lets [.bin .lss (.v 8) (.v 4)] []
  t_rReadOps_3)))
def t_rReadOps_5 : T :=
  .lets [.call 45 [.c (.s [45, 32, 45, 32, 100, 117, 112, 32, 115, 119, 97, 112, 32, 100, 114, 111, 112, 32, 97, 100, 100, 32, 115, 117, 98, 32, 115, 97, 109, 101, 32, 108, 101, 115,
  115, 32, 110, 111, 116, 32, 97, 110, 100, 32, 118, 101, 114, 105, 102, 121, 32, 104, 101, 105, 103, 104, 116, 32, 109, 105, 120])] 0] [] t_rReadOps_4
def t_rReadOps : T :=
  .lets [.bin .eql (.v 0) (.c (.s []))] [] (.ite (.v 1) (.ret [.c (.nil 2), .c (.i .i64 0)]) t_rReadOps_5)
section
variable {sp : Nat → Spec} {N : Nat} {E E' : Env} {ks : List (List Dt → Option (List Dt))} {res : Option (List Dt)}
theorem dx_cat {a b : Atom} {x y : List UInt8} (ha : a.val E = some (.s x)) (hb : b.val E = some (.s y)) (h : x.length + y.length ≤ 1000000000) : denX sp E (.bin .add a b) = some (.s (x ++ y)) := by
  have e : denX sp E (.bin .add a b) = (if x.length + y.length ≤ 1000000000 then some (.s (x ++ y)) else none) := by with_unfolding_all simp only [denX, ha, hb, Option.bind_eq_bind, Option.bind_some]; with_unfolding_all rfl
  rw [e, if_pos h]
end
attribute [local irreducible] sp_itoa sp_strFields
theorem m_rOpsText : Meets Tryd.prog sp_rOpsText 25 ⟨[.one], [(false, [.scal])], true⟩ := by
  refine meets_fast (sp := (spsOf [(31, sp_itoa), (45, sp_strFields)])) (sigs := sigsA) (cut := []) (hints := [⟨4, [.t 4, .t 10]⟩]) (fn := Tryd.f25) (t := t_rOpsText) (by kernel_rfl) (by kernel_rfl) (by kernel_rfl) ?_ ?_
  · exact (sig_of (L := [(31, sp_itoa), (45, sp_strFields)]) ⟨sig_at rfl m_itoa, sig_at rfl m_strFields, trivial⟩)
  · rintro ds rs - h
    obtain ⟨l, hc0, rfl, rfl⟩ := spD_some h
    clear h
    refine ⟨⟨l.length + 1, ?_⟩, scalOk_1 rfl⟩
    show den _ _ t_rOpsText [.l 2 (l.map eOp)] [] = ret (opsText l)
    obtain ⟨hl16, hall⟩ := opsCheck_all hc0
    have et : opsText l = joinTail [] true (l.map textOp) := by rw [joinTail_all]; with_unfolding_all rfl
    rw [et]
    have a1 := sp_words
    unfold t_rOpsText
    repeat' (first | refine dq1 ?_ | refine dqc ?_ | refine dqm ?_ | refine dqk rfl (a1) ?_ | refine dqK rfl (a1) ?_ | exact den_ret rfl rfl | refine tR (fun h => ?_) fun h => ?_ | refine tB (fun h => ?_) fun h => ?_ | refine tC (fun h => ?_) fun h => ?_ | refine tN (fun h => ?_) fun h => ?_ | refine tF (fun h => ?_) fun h => ?_ | refine tG (fun h => ?_) fun h => ?_ | refine tP (fun h => ?_) fun h => ?_ | refine tQ (fun h => ?_) fun h => ?_ | refine tA (fun h => ?_) fun h => ?_ | refine tO (fun h => ?_) fun h => ?_ | refine tU (fun h => ?_) fun h => ?_ | refine tV (fun h => ?_) fun h => ?_ | refine dqT ?_ | refine dqF ?_ | refine den_t rfl ?_ | refine den_f rfl ?_ | refine dqTn ?_ | refine dqFn ?_)
    (refine den_range (fun (a : List UInt8) k => [.s a, I k]) (fun (a : List UInt8) k (r : List Op) => joinTail a (decide (k = 0)) (r.map textOp)) (fun a k => a.length ≤ 100 * k) [] l ?_ ?_ ?_ ?_ ?_; rfl; exact Nat.zero_le _; omega)
    · rintro a k o r hx hd hk ha again hag
      have hbad := hall o (List.mem_of_getElem? hx)
      have ho := opBad_ok hbad
      obtain ⟨ho1, ho2, -⟩ := ho
      have hto := textOp_len hbad
      have e1 : joinTail a (decide (k = 0)) (textOp o :: r.map textOp) = joinTail (if decide (k = 0) = true then a ++ textOp o else a ++ [32] ++ textOp o) false (r.map textOp) := by with_unfolding_all rfl
      rw [List.map_cons, e1]
      have hk1 : decide (k + 1 = 0) = false := rfl
      by_cases hk0 : k = 0
      · rw [if_pos (decide_eq_true hk0)]
        have ha' := hag (a ++ textOp o) (by rw [List.length_append]; omega)
        rw [hk1] at ha'
        repeat' (first | refine dq1 ?_ | refine dqc ?_ | refine dqm ?_ | exact den_ret rfl rfl | refine tR (fun h => ?_) fun h => ?_ | refine tB (fun h => ?_) fun h => ?_ | refine tC (fun h => ?_) fun h => ?_ | refine tN (fun h => ?_) fun h => ?_ | refine tF (fun h => ?_) fun h => ?_ | refine tG (fun h => ?_) fun h => ?_ | refine tP (fun h => ?_) fun h => ?_ | refine tQ (fun h => ?_) fun h => ?_ | refine tA (fun h => ?_) fun h => ?_ | refine tO (fun h => ?_) fun h => ?_ | refine tU (fun h => ?_) fun h => ?_ | refine tV (fun h => ?_) fun h => ?_ | refine dqT ?_ | refine dqF ?_ | refine den_t rfl ?_ | refine den_f rfl ?_ | refine dqTn ?_ | refine dqFn ?_)
        refine den_sp rfl (fun h => ?_) (fun h => ?_)
        · have ht : textOp o = itoa o.n := by with_unfolding_all exact if_pos h
          rw [ht] at ha' hto ⊢
          repeat' (first | refine dq1 ?_ | refine dqc ?_ | refine dqm ?_ | refine dqk rfl (sp_itoa_at _) ?_ | refine dqK rfl (sp_itoa_at _) ?_ | refine den_let1 (dx_cat rfl rfl (by omega)) ?_ | exact den_ret rfl rfl | refine tR (fun h => ?_) fun h => ?_ | refine tB (fun h => ?_) fun h => ?_ | refine tC (fun h => ?_) fun h => ?_ | refine tN (fun h => ?_) fun h => ?_ | refine tF (fun h => ?_) fun h => ?_ | refine tG (fun h => ?_) fun h => ?_ | refine tP (fun h => ?_) fun h => ?_ | refine tQ (fun h => ?_) fun h => ?_ | refine tA (fun h => ?_) fun h => ?_ | refine tO (fun h => ?_) fun h => ?_ | refine tU (fun h => ?_) fun h => ?_ | refine tV (fun h => ?_) fun h => ?_ | refine dqT ?_ | refine dqF ?_ | refine den_t rfl ?_ | refine den_f rfl ?_ | refine dqTn ?_ | refine dqFn ?_)
          exact den_again rfl rfl ha'
        · have hw := wordsL_at (k := o.kind) (by omega) ho2
          have ht : textOp o = (opNames[o.kind.toNat]?).getD [] := by with_unfolding_all exact if_neg h
          rw [ht] at ha' hto ⊢
          have hwl : wordsL.length = 14 := rfl
          repeat' (first | refine dq1 ?_ | refine dqc ?_ | refine dqm ?_ | refine den_let1 (dx_cat rfl rfl (by omega)) ?_ | exact den_ret rfl rfl | refine tR (fun h => ?_) fun h => ?_ | refine tB (fun h => ?_) fun h => ?_ | refine tC (fun h => ?_) fun h => ?_ | refine tN (fun h => ?_) fun h => ?_ | refine tF (fun h => ?_) fun h => ?_ | refine tG (fun h => ?_) fun h => ?_ | refine tP (fun h => ?_) fun h => ?_ | refine tQ (fun h => ?_) fun h => ?_ | refine tA (fun h => ?_) fun h => ?_ | refine tO (fun h => ?_) fun h => ?_ | refine tU (fun h => ?_) fun h => ?_ | refine tV (fun h => ?_) fun h => ?_ | refine dqT ?_ | refine dqF ?_ | refine den_t rfl ?_ | refine den_f rfl ?_ | refine dqTn ?_ | refine dqFn ?_)
          exact den_again rfl rfl ha'
      · rw [if_neg (by simpa using hk0)]
        have ha' := hag (a ++ [32] ++ textOp o) (by simp only [List.length_append, List.length_cons, List.length_nil]; omega)
        rw [hk1] at ha'
        repeat' (first | refine dq1 ?_ | refine dqc ?_ | refine dqm ?_ | exact den_ret rfl rfl | refine tR (fun h => ?_) fun h => ?_ | refine tB (fun h => ?_) fun h => ?_ | refine tC (fun h => ?_) fun h => ?_ | refine tN (fun h => ?_) fun h => ?_ | refine tF (fun h => ?_) fun h => ?_ | refine tG (fun h => ?_) fun h => ?_ | refine tP (fun h => ?_) fun h => ?_ | refine tQ (fun h => ?_) fun h => ?_ | refine tA (fun h => ?_) fun h => ?_ | refine tO (fun h => ?_) fun h => ?_ | refine tU (fun h => ?_) fun h => ?_ | refine tV (fun h => ?_) fun h => ?_ | refine dqT ?_ | refine dqF ?_ | refine den_t rfl ?_ | refine den_f rfl ?_ | refine dqTn ?_ | refine dqFn ?_)
        refine den_let1 (dx_cat rfl rfl (by simp only [List.length_cons, List.length_nil]; omega)) ?_
        have hal : (a ++ [32]).length ≤ 2000 := by simp only [List.length_append, List.length_cons, List.length_nil]; omega
        generalize a ++ [32] = a2 at *
        repeat' (first | refine dq1 ?_ | refine dqc ?_ | refine dqm ?_ | exact den_ret rfl rfl | refine tR (fun h => ?_) fun h => ?_ | refine tB (fun h => ?_) fun h => ?_ | refine tC (fun h => ?_) fun h => ?_ | refine tN (fun h => ?_) fun h => ?_ | refine tF (fun h => ?_) fun h => ?_ | refine tG (fun h => ?_) fun h => ?_ | refine tP (fun h => ?_) fun h => ?_ | refine tQ (fun h => ?_) fun h => ?_ | refine tA (fun h => ?_) fun h => ?_ | refine tO (fun h => ?_) fun h => ?_ | refine tU (fun h => ?_) fun h => ?_ | refine tV (fun h => ?_) fun h => ?_ | refine dqT ?_ | refine dqF ?_ | refine den_t rfl ?_ | refine den_f rfl ?_ | refine dqTn ?_ | refine dqFn ?_)
        refine den_sp rfl (fun h => ?_) (fun h => ?_)
        · have ht : textOp o = itoa o.n := by with_unfolding_all exact if_pos h
          rw [ht] at ha' hto ⊢
          repeat' (first | refine dq1 ?_ | refine dqc ?_ | refine dqm ?_ | refine dqk rfl (sp_itoa_at _) ?_ | refine dqK rfl (sp_itoa_at _) ?_ | refine den_let1 (dx_cat rfl rfl (by omega)) ?_ | exact den_ret rfl rfl | refine tR (fun h => ?_) fun h => ?_ | refine tB (fun h => ?_) fun h => ?_ | refine tC (fun h => ?_) fun h => ?_ | refine tN (fun h => ?_) fun h => ?_ | refine tF (fun h => ?_) fun h => ?_ | refine tG (fun h => ?_) fun h => ?_ | refine tP (fun h => ?_) fun h => ?_ | refine tQ (fun h => ?_) fun h => ?_ | refine tA (fun h => ?_) fun h => ?_ | refine tO (fun h => ?_) fun h => ?_ | refine tU (fun h => ?_) fun h => ?_ | refine tV (fun h => ?_) fun h => ?_ | refine dqT ?_ | refine dqF ?_ | refine den_t rfl ?_ | refine den_f rfl ?_ | refine dqTn ?_ | refine dqFn ?_)
          exact den_again rfl rfl ha'
        · have hw := wordsL_at (k := o.kind) (by omega) ho2
          have ht : textOp o = (opNames[o.kind.toNat]?).getD [] := by with_unfolding_all exact if_neg h
          rw [ht] at ha' hto ⊢
          have hwl : wordsL.length = 14 := rfl
          repeat' (first | refine dq1 ?_ | refine dqc ?_ | refine dqm ?_ | refine den_let1 (dx_cat rfl rfl (by omega)) ?_ | exact den_ret rfl rfl | refine tR (fun h => ?_) fun h => ?_ | refine tB (fun h => ?_) fun h => ?_ | refine tC (fun h => ?_) fun h => ?_ | refine tN (fun h => ?_) fun h => ?_ | refine tF (fun h => ?_) fun h => ?_ | refine tG (fun h => ?_) fun h => ?_ | refine tP (fun h => ?_) fun h => ?_ | refine tQ (fun h => ?_) fun h => ?_ | refine tA (fun h => ?_) fun h => ?_ | refine tO (fun h => ?_) fun h => ?_ | refine tU (fun h => ?_) fun h => ?_ | refine tV (fun h => ?_) fun h => ?_ | refine dqT ?_ | refine dqF ?_ | refine den_t rfl ?_ | refine den_f rfl ?_ | refine dqTn ?_ | refine dqFn ?_)
          exact den_again rfl rfl ha'
    · rintro a ha again
      have e0 : ∀ b : Bool, joinTail a b [] = a := fun b => by with_unfolding_all rfl
      simp only [List.map_nil, e0]
      repeat' (first | refine dq1 ?_ | refine dqc ?_ | refine dqm ?_ | exact den_ret rfl rfl | refine tR (fun h => ?_) fun h => ?_ | refine tB (fun h => ?_) fun h => ?_ | refine tC (fun h => ?_) fun h => ?_ | refine tN (fun h => ?_) fun h => ?_ | refine tF (fun h => ?_) fun h => ?_ | refine tG (fun h => ?_) fun h => ?_ | refine tP (fun h => ?_) fun h => ?_ | refine tQ (fun h => ?_) fun h => ?_ | refine tA (fun h => ?_) fun h => ?_ | refine tO (fun h => ?_) fun h => ?_ | refine tU (fun h => ?_) fun h => ?_ | refine tV (fun h => ?_) fun h => ?_ | refine dqT ?_ | refine dqF ?_ | refine den_t rfl ?_ | refine den_f rfl ?_ | refine dqTn ?_ | refine dqFn ?_)
def wholeI (w : List UInt8) : Int × Bool := ((atoiOf w).1, !(atoiOf w).2.is && decide (itoa (atoiOf w).1 = w))
noncomputable def sp_rWhole : Spec := spD (fun s : List UInt8 => s.length ≤ 1000000000) fun s => wholeI s
theorem sp_rWhole_at (s : List UInt8) (h : s.length ≤ 1000000000) : sp_rWhole [.s s] = some [I (wholeI s).1, .b (wholeI s).2] := spD_at (p := fun s : List UInt8 => s.length ≤ 1000000000) (f := fun s : List UInt8 => wholeI s) s h
attribute [local irreducible] sp_fmtInt sp_parseInt
theorem m_rWhole : Meets Tryd.prog sp_rWhole 48 ⟨[.one], [(false, [.scal]), (false, [.scal])], true⟩ := by
  refine meets_fast (sp := (spsOf [(43, sp_fmtInt), (44, sp_parseInt)])) (sigs := sigsA) (cut := []) (hints := []) (fn := Tryd.f48) (t := t_rWhole) (by kernel_rfl) (by kernel_rfl) (by kernel_rfl) ?_ ?_
  · exact (sig_of (L := [(43, sp_fmtInt), (44, sp_parseInt)]) ⟨sig_at rfl m_fmtInt, sig_at rfl m_parseInt, trivial⟩)
  · rintro ds rs - h
    obtain ⟨w, hw, rfl, rfl⟩ := spD_some h
    clear h
    refine ⟨⟨1, ?_⟩, scalOk_2 rfl rfl⟩
    show den _ _ t_rWhole [.s w] [] = ret (wholeI w)
    have a1 := sp_parseInt_at w hw
    unfold t_rWhole wholeI
    cases hi : (atoiOf w).2.is with
    | true =>
      rw [hi] at a1
      repeat' (first | refine dq1 ?_ | refine dqc ?_ | refine dqm ?_ | refine dqk rfl (a1) ?_ | refine dqK rfl (a1) ?_ | refine den_let1 (dx_ise rfl) ?_ | exact den_ret rfl rfl | refine tR (fun h => ?_) fun h => ?_ | refine tB (fun h => ?_) fun h => ?_ | refine tC (fun h => ?_) fun h => ?_ | refine tN (fun h => ?_) fun h => ?_ | refine tF (fun h => ?_) fun h => ?_ | refine tG (fun h => ?_) fun h => ?_ | refine tP (fun h => ?_) fun h => ?_ | refine tQ (fun h => ?_) fun h => ?_ | refine tA (fun h => ?_) fun h => ?_ | refine tO (fun h => ?_) fun h => ?_ | refine tU (fun h => ?_) fun h => ?_ | refine tV (fun h => ?_) fun h => ?_ | refine dqT ?_ | refine dqF ?_ | refine den_t rfl ?_ | refine den_f rfl ?_ | refine dqTn ?_ | refine dqFn ?_)
    | false =>
      rw [hi] at a1
      repeat' (first | refine dq1 ?_ | refine dqc ?_ | refine dqm ?_ | refine dqk rfl (a1) ?_ | refine dqK rfl (a1) ?_ | refine dqk rfl (sp_fmtInt_at _) ?_ | refine dqK rfl (sp_fmtInt_at _) ?_ | refine den_let1 (dx_ise rfl) ?_ | exact den_ret rfl rfl | refine tR (fun h => ?_) fun h => ?_ | refine tB (fun h => ?_) fun h => ?_ | refine tC (fun h => ?_) fun h => ?_ | refine tN (fun h => ?_) fun h => ?_ | refine tF (fun h => ?_) fun h => ?_ | refine tG (fun h => ?_) fun h => ?_ | refine tP (fun h => ?_) fun h => ?_ | refine tQ (fun h => ?_) fun h => ?_ | refine tA (fun h => ?_) fun h => ?_ | refine tO (fun h => ?_) fun h => ?_ | refine tU (fun h => ?_) fun h => ?_ | refine tV (fun h => ?_) fun h => ?_ | refine dqT ?_ | refine dqF ?_ | refine den_t rfl ?_ | refine den_f rfl ?_ | refine dqTn ?_ | refine dqFn ?_)
theorem kind_idx (w : List UInt8) : (2 ≤ idx wordsL w → idx wordsL w = kindOf w ∧ kindOf w ≠ 0) ∧ (¬ 2 ≤ idx wordsL w → kindOf w = 0) := by
  by_cases h : w ∈ opNames.drop 2
  · have key : ∀ w ∈ opNames.drop 2, 2 ≤ idx wordsL w ∧ idx wordsL w = kindOf w ∧ kindOf w ≠ 0 := by with_unfolding_all decide +kernel
    exact ⟨fun _ => (key w h).2, fun hn => absurd (key w h).1 hn⟩
  · have hk : kindOf w = 0 := by
      with_unfolding_all refine kindGo_none _ _ _ _ fun m hm hne e => ?_
      have hm' : m = [] ∨ m = [] ∨ m ∈ opNames.drop 2 := by
        have e2 : opNames = [] :: [] :: opNames.drop 2 := rfl
        rw [e2] at hm
        simpa using hm
      rcases hm' with rfl | rfl | hm'
      · exact hne rfl
      · exact hne rfl
      · exact h (e ▸ hm')
    refine ⟨fun hi => ?_, fun _ => hk⟩
    exfalso
    have hm : w ∈ wordsL := (idxGo_mem w wordsL 0).1 (by unfold idx at hi; omega)
    have hm' : w = [45] ∨ w = [45] ∨ w ∈ opNames.drop 2 := by
      simpa [wordsL] using hm
    rcases hm' with rfl | rfl | hm'
    · exact absurd hi (by decide)
    · exact absurd hi (by decide)
    · exact h hm'
theorem wholeI_of (w : List UInt8) : wholeOf w = if (wholeI w).2 = true then some (wholeI w).1 else none := by
  unfold wholeI
  cases hi : (atoiOf w).2.is with
  | true => rw [whole_none hi]; rfl
  | false =>
    rw [whole_some hi]
    by_cases h : itoa (atoiOf w).1 = w
    · rw [if_pos h, if_pos (by simpa using h)]
    · rw [if_neg h, if_neg (by simpa using h)]
noncomputable def sp_rReadOps : Spec := spD (fun s : List UInt8 => s.length ≤ 4000) fun s => readOf s
theorem sp_rReadOps_at (s : List UInt8) (h : s.length ≤ 4000) : sp_rReadOps [.s s] = some [.l 2 ((readOf s).1.map eOp), I (readOf s).2] := spD_at (p := fun s : List UInt8 => s.length ≤ 4000) (f := fun s : List UInt8 => readOf s) s h
attribute [local irreducible] wholeI wordOp
attribute [local irreducible] sp_idxStr sp_rCheckOps sp_strSplit
theorem m_rReadOps : Meets Tryd.prog sp_rReadOps 26 ⟨[.one], [(false, [.fresh 40 2]), (false, [.scal])], false⟩ := by
  refine meets_fast (sp := (spsOf [(21, sp_rCheckOps), (41, sp_strSplit), (45, sp_strFields), (52, sp_idxStr), (56, sp_rWhole)])) (sigs := sigsA) (cut := []) (hints := [⟨6, [.r 4 40 2, .r 2 40 2, .t 3, .t 18]⟩]) (fn := Tryd.f26) (t := t_rReadOps) (by kernel_rfl) (by kernel_rfl) (by kernel_rfl) ?_ ?_
  · exact (sig_of (L := [(21, sp_rCheckOps), (41, sp_strSplit), (45, sp_strFields), (52, sp_idxStr), (56, sp_rWhole)]) ⟨sig_at rfl m_rCheckOps, sig_at rfl m_strSplit, sig_at rfl m_strFields, sig_at rfl m_idxStr, sig_at rfl m_rWhole, trivial⟩)
  · rintro ds rs hok h
    obtain ⟨s, hs4, rfl, rfl⟩ := spD_some h
    clear h
    refine ⟨⟨s.length + 5, ?_⟩, ?_⟩
    · show den _ _ t_rReadOps [.s s] [] = ret (readOf s)
      rw [readOf_go, if_neg (by omega)]
      unfold t_rReadOps
      have a1 := sp_words
      have hcl := cutAt_len 32 s
      repeat' (first | refine dq1 ?_ | refine dqc ?_ | refine dqm ?_ | refine dqk rfl (a1) ?_ | refine dqK rfl (a1) ?_ | refine dqk rfl (sp_strSplit_at s 32 (by omega)) ?_ | refine dqK rfl (sp_strSplit_at s 32 (by omega)) ?_ | exact den_ret rfl rfl | refine tR (fun h => ?_) fun h => ?_ | refine tB (fun h => ?_) fun h => ?_ | refine tC (fun h => ?_) fun h => ?_ | refine tN (fun h => ?_) fun h => ?_ | refine tF (fun h => ?_) fun h => ?_ | refine tG (fun h => ?_) fun h => ?_ | refine tP (fun h => ?_) fun h => ?_ | refine tQ (fun h => ?_) fun h => ?_ | refine tA (fun h => ?_) fun h => ?_ | refine tO (fun h => ?_) fun h => ?_ | refine tU (fun h => ?_) fun h => ?_ | refine tV (fun h => ?_) fun h => ?_ | refine dqT ?_ | refine dqF ?_ | refine den_t rfl ?_ | refine den_f rfl ?_ | refine dqTn ?_ | refine dqFn ?_)
      (refine den_range (fun (a : List Op) k => [.l 2 (a.map eOp), .l 2 [], I 0, I k]) (fun (a : List Op) _ (r : List (List UInt8)) => readGo a r) (fun a k => a.length = k) [] (cutAt 32 s) ?_ ?_ ?_ ?_ ?_; rfl; exact rfl; omega)
      · rintro a k w r hx hd hk ha again hag
        have hw := hcl.2 w (List.mem_of_getElem? hx)
        rw [readGo_cons]
        have a2 := sp_idxStr_at wordsL w
        have a3 := sp_rWhole_at w (by omega)
        obtain ⟨ki1, ki2⟩ := kind_idx w
        have hwo := wholeI_of w
        generalize idx wordsL w = j at *
        generalize wholeI w = pw at *
        obtain ⟨n, b⟩ := pw
        try simp only at a3 hwo
        by_cases hj : 2 ≤ j
        · obtain ⟨hjk, hk0⟩ := ki1 hj
          rw [wordOp_kind hk0, ← hjk]
          simp only
          repeat' (first | refine dq1 ?_ | refine dqc ?_ | refine dqm ?_ | refine dqk rfl (a2) ?_ | refine dqK rfl (a2) ?_ | refine dqk rfl (a3) ?_ | refine dqK rfl (a3) ?_ | refine den_let1 (den_mk rfl rfl (by simp)) ?_ | refine den_let1 (dx_app1 (x := ⟨j, 0⟩) (fun _ => rfl) rfl rfl (by omega)) ?_ | exact den_ret rfl rfl | refine tR (fun h => ?_) fun h => ?_ | refine tB (fun h => ?_) fun h => ?_ | refine tC (fun h => ?_) fun h => ?_ | refine tN (fun h => ?_) fun h => ?_ | refine tF (fun h => ?_) fun h => ?_ | refine tG (fun h => ?_) fun h => ?_ | refine tP (fun h => ?_) fun h => ?_ | refine tQ (fun h => ?_) fun h => ?_ | refine tA (fun h => ?_) fun h => ?_ | refine tO (fun h => ?_) fun h => ?_ | refine tU (fun h => ?_) fun h => ?_ | refine tV (fun h => ?_) fun h => ?_ | refine dqT ?_ | refine dqF ?_ | refine den_t rfl ?_ | refine den_f rfl ?_ | refine dqTn ?_ | refine dqFn ?_)
          exact den_again rfl rfl (hag (a ++ [⟨j, 0⟩]) (by rw [List.length_append, ha]; rfl))
        · rw [wordOp_zero (ki2 hj), hwo]
          cases b with
          | true =>
            simp only [if_true, Option.map_some]
            repeat' (first | refine dq1 ?_ | refine dqc ?_ | refine dqm ?_ | refine dqk rfl (a2) ?_ | refine dqK rfl (a2) ?_ | refine dqk rfl (a3) ?_ | refine dqK rfl (a3) ?_ | refine den_let1 (den_mk rfl rfl (by simp)) ?_ | refine den_let1 (dx_app1 (x := ⟨1, n⟩) (fun _ => rfl) rfl rfl (by omega)) ?_ | exact den_ret rfl rfl | refine tR (fun h => ?_) fun h => ?_ | refine tB (fun h => ?_) fun h => ?_ | refine tC (fun h => ?_) fun h => ?_ | refine tN (fun h => ?_) fun h => ?_ | refine tF (fun h => ?_) fun h => ?_ | refine tG (fun h => ?_) fun h => ?_ | refine tP (fun h => ?_) fun h => ?_ | refine tQ (fun h => ?_) fun h => ?_ | refine tA (fun h => ?_) fun h => ?_ | refine tO (fun h => ?_) fun h => ?_ | refine tU (fun h => ?_) fun h => ?_ | refine tV (fun h => ?_) fun h => ?_ | refine dqT ?_ | refine dqF ?_ | refine den_t rfl ?_ | refine den_f rfl ?_ | refine dqTn ?_ | refine dqFn ?_)
            exact den_again rfl rfl (hag (a ++ [⟨1, n⟩]) (by rw [List.length_append, ha]; rfl))
          | false =>
            simp only [Bool.false_eq_true, if_false, Option.map_none]
            repeat' (first | refine dq1 ?_ | refine dqc ?_ | refine dqm ?_ | refine dqk rfl (a2) ?_ | refine dqK rfl (a2) ?_ | refine dqk rfl (a3) ?_ | refine dqK rfl (a3) ?_ | exact den_ret rfl rfl | refine tR (fun h => ?_) fun h => ?_ | refine tB (fun h => ?_) fun h => ?_ | refine tC (fun h => ?_) fun h => ?_ | refine tN (fun h => ?_) fun h => ?_ | refine tF (fun h => ?_) fun h => ?_ | refine tG (fun h => ?_) fun h => ?_ | refine tP (fun h => ?_) fun h => ?_ | refine tQ (fun h => ?_) fun h => ?_ | refine tA (fun h => ?_) fun h => ?_ | refine tO (fun h => ?_) fun h => ?_ | refine tU (fun h => ?_) fun h => ?_ | refine tV (fun h => ?_) fun h => ?_ | refine dqT ?_ | refine dqF ?_ | refine den_t rfl ?_ | refine den_f rfl ?_ | refine dqTn ?_ | refine dqFn ?_)
      · rintro a ha again
        rw [readGo_nil]
        repeat' (first | refine dq1 ?_ | refine dqc ?_ | refine dqm ?_ | refine dqk rfl (sp_rCheckOps_at _) ?_ | refine dqK rfl (sp_rCheckOps_at _) ?_ | exact den_ret rfl rfl | refine tR (fun h => ?_) fun h => ?_ | refine tB (fun h => ?_) fun h => ?_ | refine tC (fun h => ?_) fun h => ?_ | refine tN (fun h => ?_) fun h => ?_ | refine tF (fun h => ?_) fun h => ?_ | refine tG (fun h => ?_) fun h => ?_ | refine tP (fun h => ?_) fun h => ?_ | refine tQ (fun h => ?_) fun h => ?_ | refine tA (fun h => ?_) fun h => ?_ | refine tO (fun h => ?_) fun h => ?_ | refine tU (fun h => ?_) fun h => ?_ | refine tV (fun h => ?_) fun h => ?_ | refine dqT ?_ | refine dqF ?_ | refine den_t rfl ?_ | refine den_f rfl ?_ | refine dqTn ?_ | refine dqFn ?_)
    · intro i d hi hd
      match i, hi, hd with
      | 0, hi, _ => simp [cfsOf] at hi
      | 1, _, hd => simp only [Enc.e, eInt, List.cons_append, List.nil_append, List.getElem?_cons_zero, List.getElem?_cons_succ, Option.some.injEq] at hd; subst hd; rfl
      | i + 2, hi, hd => simp [cfsOf] at hi
end Go.Proofs.YtajaacgchhmbjaaDoor
namespace Go.Proofs.YtajaacgchhmbjaaDoor
open Go.RowKit
open Go.Lib (itoa)
set_option linter.unusedVariables false
set_option linter.unusedSimpArgs false
set_option maxRecDepth 100000
set_option maxHeartbeats 8000000
attribute [local irreducible] specOf spD ordP itoa opsCheck openOf runOf runM readOf printOf opsText
noncomputable def sp_lLockParse : Spec := spD (fun _ : List Op × List UInt8 => True) fun _ => true
attribute [local irreducible] den denX denXs holdXs
def t_lLockParse_0 : T :=
  .lets [.bin .eql (.v 5) (.c (.i .i64 2))] [] (.ite (.v 17) (.lets [.len (.v 4)] [] (.lets [.bin .eql (.v 18) (.c (.i .i64 0))] [] (.ret [.v 19]))) (.ret [.c (.b false)]))
def t_lLockParse_1 : T :=
  .lets [.call 57 [.v 1] 0, .call 57 [.v 1] 1] [] (.lets [.bin .eql (.v 5) (.v 18)] [] (.ite (.v 19) (.lets [.call 19 [.v 4, .v 17] 0] [] (.ret [.v 20])) (.ret [.c (.b false)])))
def t_lLockParse_2 : T :=
  .lets [.bin .neq (.v 2) (.c (.s []))] [] (.ite (.v 14) (.ret [.c (.b false)]) (.lets [.slen (.v 1)] [] (.lets [.bin .gtr (.v 15) (.c (.i .i64 4000))] [] (.ite (.v 16) t_lLockParse_0
  t_lLockParse_1))))
def t_lLockParse_3 : T :=
  .lets [.bin .eql (.v 5) (.c (.i .i64 2))] [] (.ite (.v 16) (.lets [.len (.v 4)] [] (.lets [.bin .eql (.v 17) (.c (.i .i64 0))] [] (.ret [.v 18]))) (.ret [.c (.b false)]))
def t_lLockParse_4 : T :=
  .lets [.call 57 [.v 1] 0, .call 57 [.v 1] 1] [] (.lets [.bin .eql (.v 5) (.v 17)] [] (.ite (.v 18) (.lets [.call 19 [.v 4, .v 16] 0] [] (.ret [.v 19])) (.ret [.c (.b false)])))
def t_lLockParse_5 : T :=
  .lets [.bin .neq (.v 6) (.c (.i .i64 0))] [] (.ite (.v 13) t_lLockParse_2 (.lets [.slen (.v 1)] [] (.lets [.bin .gtr (.v 14) (.c (.i .i64 4000))] [] (.ite (.v 15) t_lLockParse_3
  t_lLockParse_4))))
def t_lLockParse_6 : T :=
  .lets [.bin .eql (.v 5) (.c (.i .i64 2))] [] (.ite (.v 15) (.lets [.len (.v 4)] [] (.lets [.bin .eql (.v 16) (.c (.i .i64 0))] [] (.ret [.v 17]))) (.ret [.c (.b false)]))
def t_lLockParse_7 : T :=
  .lets [.call 57 [.v 1] 0, .call 57 [.v 1] 1] [] (.lets [.bin .eql (.v 5) (.v 16)] [] (.ite (.v 17) (.lets [.call 19 [.v 4, .v 15] 0] [] (.ret [.v 18])) (.ret [.c (.b false)])))
def t_lLockParse_8 : T :=
  .lets [.bin .neq (.v 2) (.c (.s []))] [] (.ite (.v 12) (.ret [.c (.b false)]) (.lets [.slen (.v 1)] [] (.lets [.bin .gtr (.v 13) (.c (.i .i64 4000))] [] (.ite (.v 14) t_lLockParse_6
  t_lLockParse_7))))
def t_lLockParse_9 : T :=
  .lets [.bin .eql (.v 5) (.c (.i .i64 2))] [] (.ite (.v 14) (.lets [.len (.v 4)] [] (.lets [.bin .eql (.v 15) (.c (.i .i64 0))] [] (.ret [.v 16]))) (.ret [.c (.b false)]))
def t_lLockParse_10 : T :=
  .lets [.call 57 [.v 1] 0, .call 57 [.v 1] 1] [] (.lets [.bin .eql (.v 5) (.v 15)] [] (.ite (.v 16) (.lets [.call 19 [.v 4, .v 14] 0] [] (.ret [.v 17])) (.ret [.c (.b false)])))
def t_lLockParse_11 : T :=
  .lets [.bin .neq (.v 6) (.c (.i .i64 0))] [] (.ite (.v 11) t_lLockParse_8 (.lets [.slen (.v 1)] [] (.lets [.bin .gtr (.v 12) (.c (.i .i64 4000))] [] (.ite (.v 13) t_lLockParse_9
  t_lLockParse_10))))
def t_lLockParse_12 : T :=
  .lets [.bin .eql (.v 6) (.c (.i .i64 0))] [] (.ite (.v 10) (.lets [.call 55 [.v 0] 0] [] (.lets [.bin .neq (.v 2) (.v 11)] [] (.ite (.v 12) (.ret [.c (.b false)]) t_lLockParse_5)))
  t_lLockParse_11)
def t_lLockParse_13 : T :=
  .lets [.call 38 [] 0] [] (.lets [.not (.v 7)] [] (.ite (.v 8) (.ret [.c (.b false)]) (.lets [.bin .neq (.v 3) (.v 6)] [] (.ite (.v 9) (.ret [.c (.b false)]) t_lLockParse_12))))
def t_lLockParse : T :=
  .lets [.call 34 [.v 0] 0, .call 34 [.v 0] 1] [] (.lets [.call 54 [.v 1] 0, .call 54 [.v 1] 1] [] (.lets [.call 21 [.v 0] 0] [] t_lLockParse_13))
attribute [local irreducible] sp_eqOps sp_lLocked sp_lockParse sp_lockPrint sp_rCheckOps sp_rOpsText sp_rReadOps
theorem m_lLockParse : Meets Tryd.prog sp_lLockParse 6 ⟨[.one, .one], [(false, [.scal])], true⟩ := by
  refine meets_fast (sp := (spsOf [(19, sp_eqOps), (21, sp_rCheckOps), (34, sp_lockPrint), (38, sp_lLocked), (54, sp_lockParse), (55, sp_rOpsText), (57, sp_rReadOps)])) (sigs := sigsA) (cut := []) (hints := []) (fn := Tryd.f6) (t := t_lLockParse) (by kernel_rfl) (by kernel_rfl) (by kernel_rfl) ?_ ?_
  · exact (sig_of (L := [(19, sp_eqOps), (21, sp_rCheckOps), (34, sp_lockPrint), (38, sp_lLocked), (54, sp_lockParse), (55, sp_rOpsText), (57, sp_rReadOps)]) ⟨sig_at rfl m_eqOps, sig_at rfl m_rCheckOps, sig_at rfl m_lockPrint, sig_at rfl m_lLocked, sig_at rfl m_lockParse, sig_at rfl m_rOpsText, sig_at rfl m_rReadOps, trivial⟩)
  · rintro ds rs - h
    obtain ⟨⟨l, s⟩, -, rfl, rfl⟩ := spD_some h
    clear h
    refine ⟨⟨1, ?_⟩, scalOk_1 rfl⟩
    show den _ _ t_lLockParse [.l 2 (l.map eOp), .s s] [] = ret true
    have a1 := sp_lockPrint_at l
    have a2 := sp_lockParse_at s
    have a3 := sp_rCheckOps_at l
    have a4 := sp_lLocked_at
    have a5 := sp_eqOps_at (readOf s).1 (readOf s).1
    rw [decide_eq_true rfl] at a5
    have hcc : ¬ opsCheck l ≠ opsCheck l := fun h => h rfl
    have h00 : ¬ (0 : Int) ≠ 0 := fun h => h rfl
    have hoo : ¬ opsText l ≠ opsText l := fun h => h rfl
    have hee : ¬ ([] : List UInt8) ≠ [] := fun h => h rfl
    unfold t_lLockParse
    have hlong : 4000 < (s.length : Int) → readOf s = ([], 2) := fun h => by with_unfolding_all exact if_pos h
    by_cases hl : opsCheck l = 0
    · have hp : printOf l = (opsText l, 0) := by with_unfolding_all exact if_neg (fun h => h hl)
      have a6 := sp_rOpsText_at l hl
      rw [hp] at a1
      rw [hl] at a3
      by_cases hs : 4000 < (s.length : Int)
      · rw [hlong hs] at a2
        repeat' (first | refine dq1 ?_ | refine dqc ?_ | refine dqm ?_ | refine dqk rfl (a1) ?_ | refine dqK rfl (a1) ?_ | refine dqk rfl (a2) ?_ | refine dqK rfl (a2) ?_ | refine dqk rfl (a3) ?_ | refine dqK rfl (a3) ?_ | refine dqk rfl (a4) ?_ | refine dqK rfl (a4) ?_ | refine dqk rfl (a6) ?_ | refine dqK rfl (a6) ?_ | exact den_ret rfl rfl | refine tR (fun h => ?_) fun h => ?_ | refine tB (fun h => ?_) fun h => ?_ | refine tC (fun h => ?_) fun h => ?_ | refine tN (fun h => ?_) fun h => ?_ | refine tF (fun h => ?_) fun h => ?_ | refine tG (fun h => ?_) fun h => ?_ | refine tP (fun h => ?_) fun h => ?_ | refine tQ (fun h => ?_) fun h => ?_ | refine tA (fun h => ?_) fun h => ?_ | refine tO (fun h => ?_) fun h => ?_ | refine tU (fun h => ?_) fun h => ?_ | refine tV (fun h => ?_) fun h => ?_ | refine dqT ?_ | refine dqF ?_ | refine den_t rfl ?_ | refine den_f rfl ?_ | refine dqTn ?_ | refine dqFn ?_)
      · have a7 := sp_rReadOps_at s (by omega)
        repeat' (first | refine dq1 ?_ | refine dqc ?_ | refine dqm ?_ | refine dqk rfl (a1) ?_ | refine dqK rfl (a1) ?_ | refine dqk rfl (a2) ?_ | refine dqK rfl (a2) ?_ | refine dqk rfl (a3) ?_ | refine dqK rfl (a3) ?_ | refine dqk rfl (a4) ?_ | refine dqK rfl (a4) ?_ | refine dqk rfl (a5) ?_ | refine dqK rfl (a5) ?_ | refine dqk rfl (a6) ?_ | refine dqK rfl (a6) ?_ | refine dqk rfl (a7) ?_ | refine dqK rfl (a7) ?_ | exact den_ret rfl rfl | refine tR (fun h => ?_) fun h => ?_ | refine tB (fun h => ?_) fun h => ?_ | refine tC (fun h => ?_) fun h => ?_ | refine tN (fun h => ?_) fun h => ?_ | refine tF (fun h => ?_) fun h => ?_ | refine tG (fun h => ?_) fun h => ?_ | refine tP (fun h => ?_) fun h => ?_ | refine tQ (fun h => ?_) fun h => ?_ | refine tA (fun h => ?_) fun h => ?_ | refine tO (fun h => ?_) fun h => ?_ | refine tU (fun h => ?_) fun h => ?_ | refine tV (fun h => ?_) fun h => ?_ | refine dqT ?_ | refine dqF ?_ | refine den_t rfl ?_ | refine den_f rfl ?_ | refine dqTn ?_ | refine dqFn ?_)
    · have hp : printOf l = ([], opsCheck l) := by with_unfolding_all exact if_pos hl
      rw [hp] at a1
      by_cases hs : 4000 < (s.length : Int)
      · rw [hlong hs] at a2
        repeat' (first | refine dq1 ?_ | refine dqc ?_ | refine dqm ?_ | refine dqk rfl (a1) ?_ | refine dqK rfl (a1) ?_ | refine dqk rfl (a2) ?_ | refine dqK rfl (a2) ?_ | refine dqk rfl (a3) ?_ | refine dqK rfl (a3) ?_ | refine dqk rfl (a4) ?_ | refine dqK rfl (a4) ?_ | exact den_ret rfl rfl | refine tR (fun h => ?_) fun h => ?_ | refine tB (fun h => ?_) fun h => ?_ | refine tC (fun h => ?_) fun h => ?_ | refine tN (fun h => ?_) fun h => ?_ | refine tF (fun h => ?_) fun h => ?_ | refine tG (fun h => ?_) fun h => ?_ | refine tP (fun h => ?_) fun h => ?_ | refine tQ (fun h => ?_) fun h => ?_ | refine tA (fun h => ?_) fun h => ?_ | refine tO (fun h => ?_) fun h => ?_ | refine tU (fun h => ?_) fun h => ?_ | refine tV (fun h => ?_) fun h => ?_ | refine dqT ?_ | refine dqF ?_ | refine den_t rfl ?_ | refine den_f rfl ?_ | refine dqTn ?_ | refine dqFn ?_)
      · have a7 := sp_rReadOps_at s (by omega)
        repeat' (first | refine dq1 ?_ | refine dqc ?_ | refine dqm ?_ | refine dqk rfl (a1) ?_ | refine dqK rfl (a1) ?_ | refine dqk rfl (a2) ?_ | refine dqK rfl (a2) ?_ | refine dqk rfl (a3) ?_ | refine dqK rfl (a3) ?_ | refine dqk rfl (a4) ?_ | refine dqK rfl (a4) ?_ | refine dqk rfl (a5) ?_ | refine dqK rfl (a5) ?_ | refine dqk rfl (a7) ?_ | refine dqK rfl (a7) ?_ | exact den_ret rfl rfl | refine tR (fun h => ?_) fun h => ?_ | refine tB (fun h => ?_) fun h => ?_ | refine tC (fun h => ?_) fun h => ?_ | refine tN (fun h => ?_) fun h => ?_ | refine tF (fun h => ?_) fun h => ?_ | refine tG (fun h => ?_) fun h => ?_ | refine tP (fun h => ?_) fun h => ?_ | refine tQ (fun h => ?_) fun h => ?_ | refine tA (fun h => ?_) fun h => ?_ | refine tO (fun h => ?_) fun h => ?_ | refine tU (fun h => ?_) fun h => ?_ | refine tV (fun h => ?_) fun h => ?_ | refine dqT ?_ | refine dqF ?_ | refine den_t rfl ?_ | refine den_f rfl ?_ | refine dqTn ?_ | refine dqFn ?_)
theorem lockParse_walk (l : List (Op)) (A_l : Option Addr) (n_l c_l : Nat) (s : List UInt8) (w : World) (h_l : Rds shOp w (Lt w.heap.size) l A_l n_l c_l) (s_l : s.length ≤ 9223372036854775807) (hG : Glob w) :
    Calls Tryd.prog 6 #[.slice A_l n_l c_l, .string ⟨s.toArray⟩] w fun e w' => e = .returned (.bool true) ∧ Below w.heap.size w w' :=
  meets_calls (F := Lt w.heap.size) (us := [.slice A_l n_l c_l, .string ⟨s.toArray⟩]) rfl (en_of (fn := Tryd.f6) (by kernel_rfl) (by kernel_rfl) (by kernel_rfl)) m_lLockParse ⟨fun _ h => h, hG⟩ (spD_at (f := fun _ => true) (l, s) trivial)
    (pks_mk_one (rds_rep she_op h_l) (pks_mk_one (.s _ s_l) pks_mk_nil))
end Go.Proofs.YtajaacgchhmbjaaDoor
