/- Own texts, put together by wip/bundle.py: VL5, VL5a, VL5b, VL5c, VL6, VS4, VU3, VU4, VU5, VW6. -/
import Derived.Test.YtajaacgchhmbjaaDoorLROwnB
import Derived.Test.YtajaacgchhmbjaaDoorLROwnR
import Derived.Test.YtajaacgchhmbjaaDoorLROwnV3
import Derived.Test.YtajaacgchhmbjaaDoorLROwnZ1
namespace Go.Proofs.YtajaacgchhmbjaaDoor
open Go.RowKit
set_option linter.unusedVariables false
set_option linter.unusedSimpArgs false
set_option maxRecDepth 100000
set_option maxHeartbeats 8000000
attribute [local irreducible] specOf spD ordP
def ranR (r : Option (List Int)) : List Int × Bool := match r with
  | none => ([], false)
  | some s => (s, true)
noncomputable def sp_rFits : Spec := spD (fun _ : Int => True) fun n => decide (-1000000 ≤ n ∧ n ≤ 1000000)
theorem sp_rFits_at (n : Int) : sp_rFits [I n] = some [.b (decide (-1000000 ≤ n ∧ n ≤ 1000000))] := spD_at (f := fun n : Int => decide (-1000000 ≤ n ∧ n ≤ 1000000)) n trivial
def t_rFits : T :=
  .lets [.bin .geq (.v 0) (.c (.i .i64 (-1000000)))] [] (.ite (.v 1) (.lets [.bin .leq (.v 0) (.c (.i .i64 1000000))] [] (.ret [.v 2])) (.ret [.c (.b false)]))
def t_rRunOps_0 : T :=
  .ite (.v 53) (.ret [.c (.nil 1), .c (.b false)]) (.lets [.mk 1 [[.v 49]]] [] (.lets [.app 1 (.v 46) (.v 54)] [] (.lets [.bin .add (.v 47) (.c (.i .i64 1))] [] (.again 1 [.v 44, .v
  45, .v 55, .v 56]))))
def t_rRunOps_1 : T :=
  .lets [.bin .geq (.v 50) (.c (.i .i64 16))] [] (.ite (.v 51) (.ret [.c (.nil 1), .c (.b false)]) (.lets [.call 35 [.v 49] 0] [] (.lets [.not (.v 52)] [] t_rRunOps_0)))
def t_rRunOps_2 : T :=
  .ite (.v 48) (.lets [] [.inr 1 (.v 42) (.v 47)] (.lets [.idx (.v 42) (.v 47) 0] [] (.lets [.len (.v 46)] [] t_rRunOps_1))) (.lets [.bin .add (.v 20) (.c (.i .i64 1))] [] (.again 0
  [.v 44, .v 45, .v 46, .v 49]))
def t_rRunOps_3 : T :=
  .ite (.v 54) (.ret [.c (.nil 1), .c (.b false)]) (.lets [.mk 1 [[.v 50]]] [] (.lets [.app 1 (.v 47) (.v 55)] [] (.lets [.bin .add (.v 48) (.c (.i .i64 1))] [] (.again 1 [.v 45, .v
  46, .v 56, .v 57]))))
def t_rRunOps_4 : T :=
  .lets [.bin .geq (.v 51) (.c (.i .i64 16))] [] (.ite (.v 52) (.ret [.c (.nil 1), .c (.b false)]) (.lets [.call 35 [.v 50] 0] [] (.lets [.not (.v 53)] [] t_rRunOps_3)))
def t_rRunOps_5 : T :=
  .ite (.v 49) (.lets [] [.inr 1 (.v 43) (.v 48)] (.lets [.idx (.v 43) (.v 48) 0] [] (.lets [.len (.v 47)] [] t_rRunOps_4))) (.lets [.bin .add (.v 20) (.c (.i .i64 1))] [] (.again 0
  [.v 45, .v 46, .v 47, .v 50]))
def t_rRunOps_6 : T :=
  .ite (.v 55) (.ret [.c (.nil 1), .c (.b false)]) (.lets [.mk 1 [[.v 51]]] [] (.lets [.app 1 (.v 48) (.v 56)] [] (.lets [.bin .add (.v 49) (.c (.i .i64 1))] [] (.again 1 [.v 46, .v
  47, .v 57, .v 58]))))
def t_rRunOps_7 : T :=
  .lets [.bin .geq (.v 52) (.c (.i .i64 16))] [] (.ite (.v 53) (.ret [.c (.nil 1), .c (.b false)]) (.lets [.call 35 [.v 51] 0] [] (.lets [.not (.v 54)] [] t_rRunOps_6)))
def t_rRunOps_8 : T :=
  .ite (.v 50) (.lets [] [.inr 1 (.v 44) (.v 49)] (.lets [.idx (.v 44) (.v 49) 0] [] (.lets [.len (.v 48)] [] t_rRunOps_7))) (.lets [.bin .add (.v 20) (.c (.i .i64 1))] [] (.again 0
  [.v 46, .v 47, .v 48, .v 51]))
def t_rRunOps_9 : T :=
  .ite (.v 57) (.ret [.c (.nil 1), .c (.b false)]) (.lets [.mk 1 [[.v 53]]] [] (.lets [.app 1 (.v 50) (.v 58)] [] (.lets [.bin .add (.v 51) (.c (.i .i64 1))] [] (.again 1 [.v 48, .v
  49, .v 59, .v 60]))))
def t_rRunOps_10 : T :=
  .lets [.bin .geq (.v 54) (.c (.i .i64 16))] [] (.ite (.v 55) (.ret [.c (.nil 1), .c (.b false)]) (.lets [.call 35 [.v 53] 0] [] (.lets [.not (.v 56)] [] t_rRunOps_9)))
def t_rRunOps_11 : T :=
  .ite (.v 52) (.lets [] [.inr 1 (.v 46) (.v 51)] (.lets [.idx (.v 46) (.v 51) 0] [] (.lets [.len (.v 50)] [] t_rRunOps_10))) (.lets [.bin .add (.v 20) (.c (.i .i64 1))] [] (.again 0
  [.v 48, .v 49, .v 50, .v 53]))
def t_rRunOps_12 : T :=
  .lets [.bin .add (.v 34) (.v 37)] [] (.lets [.mk 1 [[.v 45]]] [] (.lets [.len (.v 46)] [] (.loop [.v 17, .v 18, .v 40, .c (.i .i64 0)] (.lets [.bin .lss (.v 51) (.v 47)] []
  t_rRunOps_11))))
def t_rRunOps_13 : T :=
  .ite (.v 58) (.ret [.c (.nil 1), .c (.b false)]) (.lets [.mk 1 [[.v 54]]] [] (.lets [.app 1 (.v 51) (.v 59)] [] (.lets [.bin .add (.v 52) (.c (.i .i64 1))] [] (.again 1 [.v 49, .v
  50, .v 60, .v 61]))))
def t_rRunOps_14 : T :=
  .lets [.bin .geq (.v 55) (.c (.i .i64 16))] [] (.ite (.v 56) (.ret [.c (.nil 1), .c (.b false)]) (.lets [.call 35 [.v 54] 0] [] (.lets [.not (.v 57)] [] t_rRunOps_13)))
def t_rRunOps_15 : T :=
  .ite (.v 53) (.lets [] [.inr 1 (.v 47) (.v 52)] (.lets [.idx (.v 47) (.v 52) 0] [] (.lets [.len (.v 51)] [] t_rRunOps_14))) (.lets [.bin .add (.v 20) (.c (.i .i64 1))] [] (.again 0
  [.v 49, .v 50, .v 51, .v 54]))
def t_rRunOps_16 : T :=
  .lets [.bin .sub (.v 34) (.v 37)] [] (.lets [.mk 1 [[.v 46]]] [] (.lets [.len (.v 47)] [] (.loop [.v 17, .v 18, .v 40, .c (.i .i64 0)] (.lets [.bin .lss (.v 52) (.v 48)] []
  t_rRunOps_15))))
def t_rRunOps_17 : T :=
  .ite (.v 59) (.ret [.c (.nil 1), .c (.b false)]) (.lets [.mk 1 [[.v 55]]] [] (.lets [.app 1 (.v 52) (.v 60)] [] (.lets [.bin .add (.v 53) (.c (.i .i64 1))] [] (.again 1 [.v 50, .v
  51, .v 61, .v 62]))))
def t_rRunOps_18 : T :=
  .lets [.bin .geq (.v 56) (.c (.i .i64 16))] [] (.ite (.v 57) (.ret [.c (.nil 1), .c (.b false)]) (.lets [.call 35 [.v 55] 0] [] (.lets [.not (.v 58)] [] t_rRunOps_17)))
def t_rRunOps_19 : T :=
  .ite (.v 54) (.lets [] [.inr 1 (.v 48) (.v 53)] (.lets [.idx (.v 48) (.v 53) 0] [] (.lets [.len (.v 52)] [] t_rRunOps_18))) (.lets [.bin .add (.v 20) (.c (.i .i64 1))] [] (.again 0
  [.v 50, .v 51, .v 52, .v 55]))
def t_rRunOps_20 : T :=
  .ite (.v 47) (.lets [.mk 1 [[.c (.i .i64 1)]]] [] (.lets [.len (.v 48)] [] (.loop [.v 17, .v 18, .v 40, .c (.i .i64 0)] (.lets [.bin .lss (.v 53) (.v 49)] [] t_rRunOps_19)))) (.lets
  [.mk 1 [[.c (.i .i64 0)]]] [] (.lets [.len (.v 48)] [] (.loop [.v 17, .v 18, .v 40, .c (.i .i64 0)] (.lets [.bin .lss (.v 53) (.v 49)] [] t_rRunOps_19))))
def t_rRunOps_21 : T :=
  .ite (.v 60) (.ret [.c (.nil 1), .c (.b false)]) (.lets [.mk 1 [[.v 56]]] [] (.lets [.app 1 (.v 53) (.v 61)] [] (.lets [.bin .add (.v 54) (.c (.i .i64 1))] [] (.again 1 [.v 51, .v
  52, .v 62, .v 63]))))
def t_rRunOps_22 : T :=
  .lets [.bin .geq (.v 57) (.c (.i .i64 16))] [] (.ite (.v 58) (.ret [.c (.nil 1), .c (.b false)]) (.lets [.call 35 [.v 56] 0] [] (.lets [.not (.v 59)] [] t_rRunOps_21)))
def t_rRunOps_23 : T :=
  .ite (.v 55) (.lets [] [.inr 1 (.v 49) (.v 54)] (.lets [.idx (.v 49) (.v 54) 0] [] (.lets [.len (.v 53)] [] t_rRunOps_22))) (.lets [.bin .add (.v 20) (.c (.i .i64 1))] [] (.again 0
  [.v 51, .v 52, .v 53, .v 56]))
def t_rRunOps_24 : T :=
  .ite (.v 48) (.lets [.mk 1 [[.c (.i .i64 1)]]] [] (.lets [.len (.v 49)] [] (.loop [.v 17, .v 18, .v 40, .c (.i .i64 0)] (.lets [.bin .lss (.v 54) (.v 50)] [] t_rRunOps_23)))) (.lets
  [.mk 1 [[.c (.i .i64 0)]]] [] (.lets [.len (.v 49)] [] (.loop [.v 17, .v 18, .v 40, .c (.i .i64 0)] (.lets [.bin .lss (.v 54) (.v 50)] [] t_rRunOps_23))))
def t_rRunOps_25 : T :=
  .ite (.v 62) (.ret [.c (.nil 1), .c (.b false)]) (.lets [.mk 1 [[.v 58]]] [] (.lets [.app 1 (.v 55) (.v 63)] [] (.lets [.bin .add (.v 56) (.c (.i .i64 1))] [] (.again 1 [.v 53, .v
  54, .v 64, .v 65]))))
def t_rRunOps_26 : T :=
  .lets [.bin .geq (.v 59) (.c (.i .i64 16))] [] (.ite (.v 60) (.ret [.c (.nil 1), .c (.b false)]) (.lets [.call 35 [.v 58] 0] [] (.lets [.not (.v 61)] [] t_rRunOps_25)))
def t_rRunOps_27 : T :=
  .ite (.v 57) (.lets [] [.inr 1 (.v 51) (.v 56)] (.lets [.idx (.v 51) (.v 56) 0] [] (.lets [.len (.v 55)] [] t_rRunOps_26))) (.lets [.bin .add (.v 20) (.c (.i .i64 1))] [] (.again 0
  [.v 53, .v 54, .v 55, .v 58]))
def t_rRunOps_28 : T :=
  .ite (.v 50) (.lets [.mk 1 [[.c (.i .i64 1)]]] [] (.lets [.len (.v 51)] [] (.loop [.v 17, .v 18, .v 40, .c (.i .i64 0)] (.lets [.bin .lss (.v 56) (.v 52)] [] t_rRunOps_27)))) (.lets
  [.mk 1 [[.c (.i .i64 0)]]] [] (.lets [.len (.v 51)] [] (.loop [.v 17, .v 18, .v 40, .c (.i .i64 0)] (.lets [.bin .lss (.v 56) (.v 52)] [] t_rRunOps_27))))
def t_rRunOps_29 : T :=
  .ite (.v 57) (.lets [] [.inr 1 (.c (.nil 1)) (.v 56)] (.lets [.idx (.c (.nil 1)) (.v 56) 0] [] (.lets [.len (.v 55)] [] t_rRunOps_26))) (.lets [.bin .add (.v 20) (.c (.i .i64 1))]
  [] (.again 0 [.v 53, .v 54, .v 55, .v 58]))
def t_rRunOps_30 : T :=
  .ite (.v 51) (.ret [.c (.nil 1), .c (.b false)]) (.lets [.len (.c (.nil 1))] [] (.loop [.v 17, .v 18, .v 40, .c (.i .i64 0)] (.lets [.bin .lss (.v 56) (.v 52)] [] t_rRunOps_29)))
def t_rRunOps_31 : T :=
  .ite (.v 63) (.ret [.c (.nil 1), .c (.b false)]) (.lets [.mk 1 [[.v 59]]] [] (.lets [.app 1 (.v 56) (.v 64)] [] (.lets [.bin .add (.v 57) (.c (.i .i64 1))] [] (.again 1 [.v 54, .v
  55, .v 65, .v 66]))))
def t_rRunOps_32 : T :=
  .lets [.bin .geq (.v 60) (.c (.i .i64 16))] [] (.ite (.v 61) (.ret [.c (.nil 1), .c (.b false)]) (.lets [.call 35 [.v 59] 0] [] (.lets [.not (.v 62)] [] t_rRunOps_31)))
def t_rRunOps_33 : T :=
  .ite (.v 58) (.lets [] [.inr 1 (.v 52) (.v 57)] (.lets [.idx (.v 52) (.v 57) 0] [] (.lets [.len (.v 56)] [] t_rRunOps_32))) (.lets [.bin .add (.v 20) (.c (.i .i64 1))] [] (.again 0
  [.v 54, .v 55, .v 56, .v 59]))
def t_rRunOps_34 : T :=
  .lets [.bin .add (.v 57) (.c (.i .i64 104729))] [] (.lets [.bin .rem (.v 58) (.c (.i .i64 1000003))] [] (.lets [.bin .add (.v 55) (.c (.i .i64 1))] [] (.again 1 [.v 59, .v 60])))
def t_rRunOps_35 : T :=
  .ite (.v 69) (.ret [.c (.nil 1), .c (.b false)]) (.lets [.mk 1 [[.v 65]]] [] (.lets [.app 1 (.v 62) (.v 70)] [] (.lets [.bin .add (.v 63) (.c (.i .i64 1))] [] (.again 2 [.v 60, .v
  61, .v 71, .v 72]))))
def t_rRunOps_36 : T :=
  .lets [.bin .geq (.v 66) (.c (.i .i64 16))] [] (.ite (.v 67) (.ret [.c (.nil 1), .c (.b false)]) (.lets [.call 35 [.v 65] 0] [] (.lets [.not (.v 68)] [] t_rRunOps_35)))
def t_rRunOps_37 : T :=
  .ite (.v 64) (.lets [] [.inr 1 (.v 58) (.v 63)] (.lets [.idx (.v 58) (.v 63) 0] [] (.lets [.len (.v 62)] [] t_rRunOps_36))) (.lets [.bin .add (.v 20) (.c (.i .i64 1))] [] (.again 0
  [.v 60, .v 61, .v 62, .v 65]))
def t_rRunOps_38 : T :=
  .lets [.bin .rem (.v 54) (.c (.i .i64 1000001))] [] (.lets [.mk 1 [[.v 57]]] [] (.lets [.len (.v 58)] [] (.loop [.v 17, .v 18, .v 40, .c (.i .i64 0)] (.lets [.bin .lss (.v 63) (.v
  59)] [] t_rRunOps_37))))
def t_rRunOps_39 : T :=
  .loop [.v 53, .c (.i .i64 0)] (.lets [.bin .lss (.v 55) (.c (.i .i64 3))] [] (.ite (.v 56) (.lets [.bin .mul (.v 54) (.c (.i .i64 7919))] [] t_rRunOps_34) t_rRunOps_38))
def t_rRunOps_40 : T :=
  .ite (.v 58) (.lets [] [.inr 1 (.c (.nil 1)) (.v 57)] (.lets [.idx (.c (.nil 1)) (.v 57) 0] [] (.lets [.len (.v 56)] [] t_rRunOps_32))) (.lets [.bin .add (.v 20) (.c (.i .i64 1))]
  [] (.again 0 [.v 54, .v 55, .v 56, .v 59]))
def t_rRunOps_41 : T :=
  .ite (.v 52) (.lets [.bin .add (.v 34) (.c (.i .i64 1000000))] [] t_rRunOps_39) (.lets [.len (.c (.nil 1))] [] (.loop [.v 17, .v 18, .v 40, .c (.i .i64 0)] (.lets [.bin .lss (.v 57)
  (.v 53)] [] t_rRunOps_40)))
def t_rRunOps_42 : T :=
  .ite (.v 51) (.lets [.mk 1 [[.v 2]]] [] (.lets [.len (.v 52)] [] (.loop [.v 17, .v 18, .v 40, .c (.i .i64 0)] (.lets [.bin .lss (.v 57) (.v 53)] [] t_rRunOps_33)))) (.lets [.bin
  .eql (.v 22) (.c (.i .i64 13))] [] t_rRunOps_41)
def t_rRunOps_43 : T :=
  .lets [.bin .eql (.v 22) (.c (.i .i64 11))] [] (.ite (.v 50) (.lets [.bin .eql (.v 34) (.c (.i .i64 0))] [] t_rRunOps_30) (.lets [.bin .eql (.v 22) (.c (.i .i64 12))] []
  t_rRunOps_42))
def t_rRunOps_44 : T :=
  .ite (.v 48) (.lets [.bin .mul (.v 34) (.v 37)] [] (.lets [.bin .neq (.v 49) (.c (.i .i64 0))] [] t_rRunOps_28)) (.lets [.bin .eql (.v 22) (.c (.i .i64 9))] [] (.ite (.v 49) (.lets
  [.bin .eql (.v 34) (.c (.i .i64 0))] [] t_rRunOps_28) t_rRunOps_43))
def t_rRunOps_45 : T :=
  .lets [.bin .eql (.v 22) (.c (.i .i64 8))] [] (.ite (.v 47) (.lets [.bin .lss (.v 34) (.v 37)] [] t_rRunOps_24) (.lets [.bin .eql (.v 22) (.c (.i .i64 10))] [] t_rRunOps_44))
def t_rRunOps_46 : T :=
  .lets [.bin .eql (.v 22) (.c (.i .i64 6))] [] (.ite (.v 45) t_rRunOps_16 (.lets [.bin .eql (.v 22) (.c (.i .i64 7))] [] (.ite (.v 46) (.lets [.bin .eql (.v 34) (.v 37)] []
  t_rRunOps_20) t_rRunOps_45)))
def t_rRunOps_47 : T :=
  .ite (.v 43) (.lets [.mk 1 [[.v 37], [.v 34]]] [] (.lets [.len (.v 44)] [] (.loop [.v 17, .v 18, .v 40, .c (.i .i64 0)] (.lets [.bin .lss (.v 49) (.v 45)] [] t_rRunOps_8)))) (.lets
  [.bin .eql (.v 22) (.c (.i .i64 5))] [] (.ite (.v 44) t_rRunOps_12 t_rRunOps_46))
def t_rRunOps_48 : T :=
  .ite (.v 42) (.lets [.mk 1 [[.v 34], [.v 34]]] [] (.lets [.len (.v 43)] [] (.loop [.v 17, .v 18, .v 40, .c (.i .i64 0)] (.lets [.bin .lss (.v 48) (.v 44)] [] t_rRunOps_5)))) (.lets
  [.bin .eql (.v 22) (.c (.i .i64 3))] [] t_rRunOps_47)
def t_rRunOps_49 : T :=
  .ite (.v 41) (.lets [.mk 1 [[.v 23]]] [] (.lets [.len (.v 42)] [] (.loop [.v 17, .v 18, .v 40, .c (.i .i64 0)] (.lets [.bin .lss (.v 47) (.v 43)] [] t_rRunOps_2)))) (.lets [.bin
  .eql (.v 22) (.c (.i .i64 2))] [] t_rRunOps_48)
def t_rRunOps_50 : T :=
  .lets [.len (.v 19)] [] (.lets [.bin .sub (.v 38) (.v 24)] [] (.lets [.sub 1 (.v 19) none (some (.v 39))] [] (.lets [.bin .eql (.v 22) (.c (.i .i64 1))] [] t_rRunOps_49)))
def t_rRunOps_51 : T :=
  .lets [.idx (.v 19) (.v 33) 0] [] (.lets [.len (.v 19)] [] (.lets [.bin .sub (.v 35) (.c (.i .i64 1))] [] (.lets [] [.inr 1 (.v 19) (.v 36)] (.lets [.idx (.v 19) (.v 36) 0] []
  t_rRunOps_50))))
def t_rRunOps_52 : T :=
  .ite (.v 47) (.ret [.c (.nil 1), .c (.b false)]) (.lets [.mk 1 [[.v 43]]] [] (.lets [.app 1 (.v 40) (.v 48)] [] (.lets [.bin .add (.v 41) (.c (.i .i64 1))] [] (.again 1 [.v 38, .v
  39, .v 49, .v 50]))))
def t_rRunOps_53 : T :=
  .lets [.bin .geq (.v 44) (.c (.i .i64 16))] [] (.ite (.v 45) (.ret [.c (.nil 1), .c (.b false)]) (.lets [.call 35 [.v 43] 0] [] (.lets [.not (.v 46)] [] t_rRunOps_52)))
def t_rRunOps_54 : T :=
  .ite (.v 42) (.lets [] [.inr 1 (.v 36) (.v 41)] (.lets [.idx (.v 36) (.v 41) 0] [] (.lets [.len (.v 40)] [] t_rRunOps_53))) (.lets [.bin .add (.v 20) (.c (.i .i64 1))] [] (.again 0
  [.v 38, .v 39, .v 40, .v 43]))
def t_rRunOps_55 : T :=
  .ite (.v 48) (.ret [.c (.nil 1), .c (.b false)]) (.lets [.mk 1 [[.v 44]]] [] (.lets [.app 1 (.v 41) (.v 49)] [] (.lets [.bin .add (.v 42) (.c (.i .i64 1))] [] (.again 1 [.v 39, .v
  40, .v 50, .v 51]))))
def t_rRunOps_56 : T :=
  .lets [.bin .geq (.v 45) (.c (.i .i64 16))] [] (.ite (.v 46) (.ret [.c (.nil 1), .c (.b false)]) (.lets [.call 35 [.v 44] 0] [] (.lets [.not (.v 47)] [] t_rRunOps_55)))
def t_rRunOps_57 : T :=
  .ite (.v 43) (.lets [] [.inr 1 (.v 37) (.v 42)] (.lets [.idx (.v 37) (.v 42) 0] [] (.lets [.len (.v 41)] [] t_rRunOps_56))) (.lets [.bin .add (.v 20) (.c (.i .i64 1))] [] (.again 0
  [.v 39, .v 40, .v 41, .v 44]))
def t_rRunOps_58 : T :=
  .ite (.v 49) (.ret [.c (.nil 1), .c (.b false)]) (.lets [.mk 1 [[.v 45]]] [] (.lets [.app 1 (.v 42) (.v 50)] [] (.lets [.bin .add (.v 43) (.c (.i .i64 1))] [] (.again 1 [.v 40, .v
  41, .v 51, .v 52]))))
def t_rRunOps_59 : T :=
  .lets [.bin .geq (.v 46) (.c (.i .i64 16))] [] (.ite (.v 47) (.ret [.c (.nil 1), .c (.b false)]) (.lets [.call 35 [.v 45] 0] [] (.lets [.not (.v 48)] [] t_rRunOps_58)))
def t_rRunOps_60 : T :=
  .ite (.v 44) (.lets [] [.inr 1 (.v 38) (.v 43)] (.lets [.idx (.v 38) (.v 43) 0] [] (.lets [.len (.v 42)] [] t_rRunOps_59))) (.lets [.bin .add (.v 20) (.c (.i .i64 1))] [] (.again 0
  [.v 40, .v 41, .v 42, .v 45]))
def t_rRunOps_61 : T :=
  .lets [.mk 1 [[.c (.i .i64 0)], [.v 30]]] [] (.lets [.len (.v 38)] [] (.loop [.v 17, .v 18, .v 34, .c (.i .i64 0)] (.lets [.bin .lss (.v 43) (.v 39)] [] t_rRunOps_60)))
def t_rRunOps_62 : T :=
  .ite (.v 51) (.ret [.c (.nil 1), .c (.b false)]) (.lets [.mk 1 [[.v 47]]] [] (.lets [.app 1 (.v 44) (.v 52)] [] (.lets [.bin .add (.v 45) (.c (.i .i64 1))] [] (.again 1 [.v 42, .v
  43, .v 53, .v 54]))))
def t_rRunOps_63 : T :=
  .lets [.bin .geq (.v 48) (.c (.i .i64 16))] [] (.ite (.v 49) (.ret [.c (.nil 1), .c (.b false)]) (.lets [.call 35 [.v 47] 0] [] (.lets [.not (.v 50)] [] t_rRunOps_62)))
def t_rRunOps_64 : T :=
  .ite (.v 46) (.lets [] [.inr 1 (.v 40) (.v 45)] (.lets [.idx (.v 40) (.v 45) 0] [] (.lets [.len (.v 44)] [] t_rRunOps_63))) (.lets [.bin .add (.v 20) (.c (.i .i64 1))] [] (.again 0
  [.v 42, .v 43, .v 44, .v 47]))
def t_rRunOps_65 : T :=
  .lets [.bin .add (.v 30) (.c (.i .i64 0))] [] (.lets [.mk 1 [[.v 39]]] [] (.lets [.len (.v 40)] [] (.loop [.v 17, .v 18, .v 34, .c (.i .i64 0)] (.lets [.bin .lss (.v 45) (.v 41)] []
  t_rRunOps_64))))
def t_rRunOps_66 : T :=
  .ite (.v 52) (.ret [.c (.nil 1), .c (.b false)]) (.lets [.mk 1 [[.v 48]]] [] (.lets [.app 1 (.v 45) (.v 53)] [] (.lets [.bin .add (.v 46) (.c (.i .i64 1))] [] (.again 1 [.v 43, .v
  44, .v 54, .v 55]))))
def t_rRunOps_67 : T :=
  .lets [.bin .geq (.v 49) (.c (.i .i64 16))] [] (.ite (.v 50) (.ret [.c (.nil 1), .c (.b false)]) (.lets [.call 35 [.v 48] 0] [] (.lets [.not (.v 51)] [] t_rRunOps_66)))
def t_rRunOps_68 : T :=
  .ite (.v 47) (.lets [] [.inr 1 (.v 41) (.v 46)] (.lets [.idx (.v 41) (.v 46) 0] [] (.lets [.len (.v 45)] [] t_rRunOps_67))) (.lets [.bin .add (.v 20) (.c (.i .i64 1))] [] (.again 0
  [.v 43, .v 44, .v 45, .v 48]))
def t_rRunOps_69 : T :=
  .lets [.bin .sub (.v 30) (.c (.i .i64 0))] [] (.lets [.mk 1 [[.v 40]]] [] (.lets [.len (.v 41)] [] (.loop [.v 17, .v 18, .v 34, .c (.i .i64 0)] (.lets [.bin .lss (.v 46) (.v 42)] []
  t_rRunOps_68))))
def t_rRunOps_70 : T :=
  .ite (.v 41) (.lets [.mk 1 [[.c (.i .i64 1)]]] [] (.lets [.len (.v 42)] [] (.loop [.v 17, .v 18, .v 34, .c (.i .i64 0)] (.lets [.bin .lss (.v 47) (.v 43)] [] t_rRunOps_2)))) (.lets
  [.mk 1 [[.c (.i .i64 0)]]] [] (.lets [.len (.v 42)] [] (.loop [.v 17, .v 18, .v 34, .c (.i .i64 0)] (.lets [.bin .lss (.v 47) (.v 43)] [] t_rRunOps_2))))
def t_rRunOps_71 : T :=
  .ite (.v 42) (.lets [.mk 1 [[.c (.i .i64 1)]]] [] (.lets [.len (.v 43)] [] (.loop [.v 17, .v 18, .v 34, .c (.i .i64 0)] (.lets [.bin .lss (.v 48) (.v 44)] [] t_rRunOps_5)))) (.lets
  [.mk 1 [[.c (.i .i64 0)]]] [] (.lets [.len (.v 43)] [] (.loop [.v 17, .v 18, .v 34, .c (.i .i64 0)] (.lets [.bin .lss (.v 48) (.v 44)] [] t_rRunOps_5))))
def t_rRunOps_72 : T :=
  .ite (.v 56) (.ret [.c (.nil 1), .c (.b false)]) (.lets [.mk 1 [[.v 52]]] [] (.lets [.app 1 (.v 49) (.v 57)] [] (.lets [.bin .add (.v 50) (.c (.i .i64 1))] [] (.again 1 [.v 47, .v
  48, .v 58, .v 59]))))
def t_rRunOps_73 : T :=
  .lets [.bin .geq (.v 53) (.c (.i .i64 16))] [] (.ite (.v 54) (.ret [.c (.nil 1), .c (.b false)]) (.lets [.call 35 [.v 52] 0] [] (.lets [.not (.v 55)] [] t_rRunOps_72)))
def t_rRunOps_74 : T :=
  .ite (.v 51) (.lets [] [.inr 1 (.v 45) (.v 50)] (.lets [.idx (.v 45) (.v 50) 0] [] (.lets [.len (.v 49)] [] t_rRunOps_73))) (.lets [.bin .add (.v 20) (.c (.i .i64 1))] [] (.again 0
  [.v 47, .v 48, .v 49, .v 52]))
def t_rRunOps_75 : T :=
  .ite (.v 44) (.lets [.mk 1 [[.c (.i .i64 1)]]] [] (.lets [.len (.v 45)] [] (.loop [.v 17, .v 18, .v 34, .c (.i .i64 0)] (.lets [.bin .lss (.v 50) (.v 46)] [] t_rRunOps_74)))) (.lets
  [.mk 1 [[.c (.i .i64 0)]]] [] (.lets [.len (.v 45)] [] (.loop [.v 17, .v 18, .v 34, .c (.i .i64 0)] (.lets [.bin .lss (.v 50) (.v 46)] [] t_rRunOps_74))))
def t_rRunOps_76 : T :=
  .ite (.v 51) (.lets [] [.inr 1 (.c (.nil 1)) (.v 50)] (.lets [.idx (.c (.nil 1)) (.v 50) 0] [] (.lets [.len (.v 49)] [] t_rRunOps_73))) (.lets [.bin .add (.v 20) (.c (.i .i64 1))]
  [] (.again 0 [.v 47, .v 48, .v 49, .v 52]))
def t_rRunOps_77 : T :=
  .ite (.v 45) (.ret [.c (.nil 1), .c (.b false)]) (.lets [.len (.c (.nil 1))] [] (.loop [.v 17, .v 18, .v 34, .c (.i .i64 0)] (.lets [.bin .lss (.v 50) (.v 46)] [] t_rRunOps_76)))
def t_rRunOps_78 : T :=
  .lets [.bin .add (.v 51) (.c (.i .i64 104729))] [] (.lets [.bin .rem (.v 52) (.c (.i .i64 1000003))] [] (.lets [.bin .add (.v 49) (.c (.i .i64 1))] [] (.again 1 [.v 53, .v 54])))
def t_rRunOps_79 : T :=
  .ite (.v 63) (.ret [.c (.nil 1), .c (.b false)]) (.lets [.mk 1 [[.v 59]]] [] (.lets [.app 1 (.v 56) (.v 64)] [] (.lets [.bin .add (.v 57) (.c (.i .i64 1))] [] (.again 2 [.v 54, .v
  55, .v 65, .v 66]))))
def t_rRunOps_80 : T :=
  .lets [.bin .geq (.v 60) (.c (.i .i64 16))] [] (.ite (.v 61) (.ret [.c (.nil 1), .c (.b false)]) (.lets [.call 35 [.v 59] 0] [] (.lets [.not (.v 62)] [] t_rRunOps_79)))
def t_rRunOps_81 : T :=
  .ite (.v 58) (.lets [] [.inr 1 (.v 52) (.v 57)] (.lets [.idx (.v 52) (.v 57) 0] [] (.lets [.len (.v 56)] [] t_rRunOps_80))) (.lets [.bin .add (.v 20) (.c (.i .i64 1))] [] (.again 0
  [.v 54, .v 55, .v 56, .v 59]))
def t_rRunOps_82 : T :=
  .lets [.bin .rem (.v 48) (.c (.i .i64 1000001))] [] (.lets [.mk 1 [[.v 51]]] [] (.lets [.len (.v 52)] [] (.loop [.v 17, .v 18, .v 34, .c (.i .i64 0)] (.lets [.bin .lss (.v 57) (.v
  53)] [] t_rRunOps_81))))
def t_rRunOps_83 : T :=
  .loop [.v 47, .c (.i .i64 0)] (.lets [.bin .lss (.v 49) (.c (.i .i64 3))] [] (.ite (.v 50) (.lets [.bin .mul (.v 48) (.c (.i .i64 7919))] [] t_rRunOps_78) t_rRunOps_82))
def t_rRunOps_84 : T :=
  .ite (.v 52) (.lets [] [.inr 1 (.c (.nil 1)) (.v 51)] (.lets [.idx (.c (.nil 1)) (.v 51) 0] [] (.lets [.len (.v 50)] [] t_rRunOps_10))) (.lets [.bin .add (.v 20) (.c (.i .i64 1))]
  [] (.again 0 [.v 48, .v 49, .v 50, .v 53]))
def t_rRunOps_85 : T :=
  .ite (.v 46) (.lets [.bin .add (.v 30) (.c (.i .i64 1000000))] [] t_rRunOps_83) (.lets [.len (.c (.nil 1))] [] (.loop [.v 17, .v 18, .v 34, .c (.i .i64 0)] (.lets [.bin .lss (.v 51)
  (.v 47)] [] t_rRunOps_84)))
def t_rRunOps_86 : T :=
  .ite (.v 45) (.lets [.mk 1 [[.v 2]]] [] (.lets [.len (.v 46)] [] (.loop [.v 17, .v 18, .v 34, .c (.i .i64 0)] (.lets [.bin .lss (.v 51) (.v 47)] [] t_rRunOps_11)))) (.lets [.bin
  .eql (.v 22) (.c (.i .i64 13))] [] t_rRunOps_85)
def t_rRunOps_87 : T :=
  .lets [.bin .eql (.v 22) (.c (.i .i64 11))] [] (.ite (.v 44) (.lets [.bin .eql (.v 30) (.c (.i .i64 0))] [] t_rRunOps_77) (.lets [.bin .eql (.v 22) (.c (.i .i64 12))] []
  t_rRunOps_86))
def t_rRunOps_88 : T :=
  .ite (.v 42) (.lets [.bin .mul (.v 30) (.c (.i .i64 0))] [] (.lets [.bin .neq (.v 43) (.c (.i .i64 0))] [] t_rRunOps_75)) (.lets [.bin .eql (.v 22) (.c (.i .i64 9))] [] (.ite (.v
  43) (.lets [.bin .eql (.v 30) (.c (.i .i64 0))] [] t_rRunOps_75) t_rRunOps_87))
def t_rRunOps_89 : T :=
  .lets [.bin .eql (.v 22) (.c (.i .i64 8))] [] (.ite (.v 41) (.lets [.bin .lss (.v 30) (.c (.i .i64 0))] [] t_rRunOps_71) (.lets [.bin .eql (.v 22) (.c (.i .i64 10))] []
  t_rRunOps_88))
def t_rRunOps_90 : T :=
  .ite (.v 39) t_rRunOps_69 (.lets [.bin .eql (.v 22) (.c (.i .i64 7))] [] (.ite (.v 40) (.lets [.bin .eql (.v 30) (.c (.i .i64 0))] [] t_rRunOps_70) t_rRunOps_89))
def t_rRunOps_91 : T :=
  .ite (.v 37) t_rRunOps_61 (.lets [.bin .eql (.v 22) (.c (.i .i64 5))] [] (.ite (.v 38) t_rRunOps_65 (.lets [.bin .eql (.v 22) (.c (.i .i64 6))] [] t_rRunOps_90)))
def t_rRunOps_92 : T :=
  .ite (.v 36) (.lets [.mk 1 [[.v 30], [.v 30]]] [] (.lets [.len (.v 37)] [] (.loop [.v 17, .v 18, .v 34, .c (.i .i64 0)] (.lets [.bin .lss (.v 42) (.v 38)] [] t_rRunOps_57)))) (.lets
  [.bin .eql (.v 22) (.c (.i .i64 3))] [] t_rRunOps_91)
def t_rRunOps_93 : T :=
  .ite (.v 35) (.lets [.mk 1 [[.v 23]]] [] (.lets [.len (.v 36)] [] (.loop [.v 17, .v 18, .v 34, .c (.i .i64 0)] (.lets [.bin .lss (.v 41) (.v 37)] [] t_rRunOps_54)))) (.lets [.bin
  .eql (.v 22) (.c (.i .i64 2))] [] t_rRunOps_92)
def t_rRunOps_94 : T :=
  .lets [.len (.v 19)] [] (.lets [.bin .sub (.v 32) (.v 24)] [] (.lets [.sub 1 (.v 19) none (some (.v 33))] [] (.lets [.bin .eql (.v 22) (.c (.i .i64 1))] [] t_rRunOps_93)))
def t_rRunOps_95 : T :=
  .lets [.bin .eql (.v 24) (.c (.i .i64 2))] [] (.ite (.v 31) (.lets [.len (.v 19)] [] (.lets [.bin .sub (.v 32) (.c (.i .i64 2))] [] (.lets [] [.inr 1 (.v 19) (.v 33)]
  t_rRunOps_51))) t_rRunOps_94)
def t_rRunOps_96 : T :=
  .ite (.v 50) (.ret [.c (.nil 1), .c (.b false)]) (.lets [.mk 1 [[.v 46]]] [] (.lets [.app 1 (.v 43) (.v 51)] [] (.lets [.bin .add (.v 44) (.c (.i .i64 1))] [] (.again 1 [.v 41, .v
  42, .v 52, .v 53]))))
def t_rRunOps_97 : T :=
  .lets [.bin .geq (.v 47) (.c (.i .i64 16))] [] (.ite (.v 48) (.ret [.c (.nil 1), .c (.b false)]) (.lets [.call 35 [.v 46] 0] [] (.lets [.not (.v 49)] [] t_rRunOps_96)))
def t_rRunOps_98 : T :=
  .ite (.v 45) (.lets [] [.inr 1 (.v 39) (.v 44)] (.lets [.idx (.v 39) (.v 44) 0] [] (.lets [.len (.v 43)] [] t_rRunOps_97))) (.lets [.bin .add (.v 20) (.c (.i .i64 1))] [] (.again 0
  [.v 41, .v 42, .v 43, .v 46]))
def t_rRunOps_99 : T :=
  .lets [.bin .add (.v 31) (.v 34)] [] (.lets [.mk 1 [[.v 42]]] [] (.lets [.len (.v 43)] [] (.loop [.v 17, .v 18, .v 37, .c (.i .i64 0)] (.lets [.bin .lss (.v 48) (.v 44)] []
  t_rRunOps_5))))
def t_rRunOps_100 : T :=
  .lets [.bin .sub (.v 31) (.v 34)] [] (.lets [.mk 1 [[.v 43]]] [] (.lets [.len (.v 44)] [] (.loop [.v 17, .v 18, .v 37, .c (.i .i64 0)] (.lets [.bin .lss (.v 49) (.v 45)] []
  t_rRunOps_8))))
def t_rRunOps_101 : T :=
  .ite (.v 44) (.lets [.mk 1 [[.c (.i .i64 1)]]] [] (.lets [.len (.v 45)] [] (.loop [.v 17, .v 18, .v 37, .c (.i .i64 0)] (.lets [.bin .lss (.v 50) (.v 46)] [] t_rRunOps_74)))) (.lets
  [.mk 1 [[.c (.i .i64 0)]]] [] (.lets [.len (.v 45)] [] (.loop [.v 17, .v 18, .v 37, .c (.i .i64 0)] (.lets [.bin .lss (.v 50) (.v 46)] [] t_rRunOps_74))))
def t_rRunOps_102 : T :=
  .ite (.v 45) (.lets [.mk 1 [[.c (.i .i64 1)]]] [] (.lets [.len (.v 46)] [] (.loop [.v 17, .v 18, .v 37, .c (.i .i64 0)] (.lets [.bin .lss (.v 51) (.v 47)] [] t_rRunOps_11)))) (.lets
  [.mk 1 [[.c (.i .i64 0)]]] [] (.lets [.len (.v 46)] [] (.loop [.v 17, .v 18, .v 37, .c (.i .i64 0)] (.lets [.bin .lss (.v 51) (.v 47)] [] t_rRunOps_11))))
def t_rRunOps_103 : T :=
  .ite (.v 47) (.lets [.mk 1 [[.c (.i .i64 1)]]] [] (.lets [.len (.v 48)] [] (.loop [.v 17, .v 18, .v 37, .c (.i .i64 0)] (.lets [.bin .lss (.v 53) (.v 49)] [] t_rRunOps_19)))) (.lets
  [.mk 1 [[.c (.i .i64 0)]]] [] (.lets [.len (.v 48)] [] (.loop [.v 17, .v 18, .v 37, .c (.i .i64 0)] (.lets [.bin .lss (.v 53) (.v 49)] [] t_rRunOps_19))))
def t_rRunOps_104 : T :=
  .ite (.v 54) (.lets [] [.inr 1 (.c (.nil 1)) (.v 53)] (.lets [.idx (.c (.nil 1)) (.v 53) 0] [] (.lets [.len (.v 52)] [] t_rRunOps_18))) (.lets [.bin .add (.v 20) (.c (.i .i64 1))]
  [] (.again 0 [.v 50, .v 51, .v 52, .v 55]))
def t_rRunOps_105 : T :=
  .ite (.v 48) (.ret [.c (.nil 1), .c (.b false)]) (.lets [.len (.c (.nil 1))] [] (.loop [.v 17, .v 18, .v 37, .c (.i .i64 0)] (.lets [.bin .lss (.v 53) (.v 49)] [] t_rRunOps_104)))
def t_rRunOps_106 : T :=
  .lets [.bin .add (.v 54) (.c (.i .i64 104729))] [] (.lets [.bin .rem (.v 55) (.c (.i .i64 1000003))] [] (.lets [.bin .add (.v 52) (.c (.i .i64 1))] [] (.again 1 [.v 56, .v 57])))
def t_rRunOps_107 : T :=
  .ite (.v 66) (.ret [.c (.nil 1), .c (.b false)]) (.lets [.mk 1 [[.v 62]]] [] (.lets [.app 1 (.v 59) (.v 67)] [] (.lets [.bin .add (.v 60) (.c (.i .i64 1))] [] (.again 2 [.v 57, .v
  58, .v 68, .v 69]))))
def t_rRunOps_108 : T :=
  .lets [.bin .geq (.v 63) (.c (.i .i64 16))] [] (.ite (.v 64) (.ret [.c (.nil 1), .c (.b false)]) (.lets [.call 35 [.v 62] 0] [] (.lets [.not (.v 65)] [] t_rRunOps_107)))
def t_rRunOps_109 : T :=
  .ite (.v 61) (.lets [] [.inr 1 (.v 55) (.v 60)] (.lets [.idx (.v 55) (.v 60) 0] [] (.lets [.len (.v 59)] [] t_rRunOps_108))) (.lets [.bin .add (.v 20) (.c (.i .i64 1))] [] (.again 0
  [.v 57, .v 58, .v 59, .v 62]))
def t_rRunOps_110 : T :=
  .lets [.bin .rem (.v 51) (.c (.i .i64 1000001))] [] (.lets [.mk 1 [[.v 54]]] [] (.lets [.len (.v 55)] [] (.loop [.v 17, .v 18, .v 37, .c (.i .i64 0)] (.lets [.bin .lss (.v 60) (.v
  56)] [] t_rRunOps_109))))
def t_rRunOps_111 : T :=
  .loop [.v 50, .c (.i .i64 0)] (.lets [.bin .lss (.v 52) (.c (.i .i64 3))] [] (.ite (.v 53) (.lets [.bin .mul (.v 51) (.c (.i .i64 7919))] [] t_rRunOps_106) t_rRunOps_110))
def t_rRunOps_112 : T :=
  .ite (.v 55) (.lets [] [.inr 1 (.c (.nil 1)) (.v 54)] (.lets [.idx (.c (.nil 1)) (.v 54) 0] [] (.lets [.len (.v 53)] [] t_rRunOps_22))) (.lets [.bin .add (.v 20) (.c (.i .i64 1))]
  [] (.again 0 [.v 51, .v 52, .v 53, .v 56]))
def t_rRunOps_113 : T :=
  .ite (.v 49) (.lets [.bin .add (.v 31) (.c (.i .i64 1000000))] [] t_rRunOps_111) (.lets [.len (.c (.nil 1))] [] (.loop [.v 17, .v 18, .v 37, .c (.i .i64 0)] (.lets [.bin .lss (.v
  54) (.v 50)] [] t_rRunOps_112)))
def t_rRunOps_114 : T :=
  .ite (.v 48) (.lets [.mk 1 [[.v 2]]] [] (.lets [.len (.v 49)] [] (.loop [.v 17, .v 18, .v 37, .c (.i .i64 0)] (.lets [.bin .lss (.v 54) (.v 50)] [] t_rRunOps_23)))) (.lets [.bin
  .eql (.v 22) (.c (.i .i64 13))] [] t_rRunOps_113)
def t_rRunOps_115 : T :=
  .lets [.bin .eql (.v 22) (.c (.i .i64 11))] [] (.ite (.v 47) (.lets [.bin .eql (.v 31) (.c (.i .i64 0))] [] t_rRunOps_105) (.lets [.bin .eql (.v 22) (.c (.i .i64 12))] []
  t_rRunOps_114))
def t_rRunOps_116 : T :=
  .ite (.v 45) (.lets [.bin .mul (.v 31) (.v 34)] [] (.lets [.bin .neq (.v 46) (.c (.i .i64 0))] [] t_rRunOps_103)) (.lets [.bin .eql (.v 22) (.c (.i .i64 9))] [] (.ite (.v 46) (.lets
  [.bin .eql (.v 31) (.c (.i .i64 0))] [] t_rRunOps_103) t_rRunOps_115))
def t_rRunOps_117 : T :=
  .lets [.bin .eql (.v 22) (.c (.i .i64 8))] [] (.ite (.v 44) (.lets [.bin .lss (.v 31) (.v 34)] [] t_rRunOps_102) (.lets [.bin .eql (.v 22) (.c (.i .i64 10))] [] t_rRunOps_116))
def t_rRunOps_118 : T :=
  .lets [.bin .eql (.v 22) (.c (.i .i64 6))] [] (.ite (.v 42) t_rRunOps_100 (.lets [.bin .eql (.v 22) (.c (.i .i64 7))] [] (.ite (.v 43) (.lets [.bin .eql (.v 31) (.v 34)] []
  t_rRunOps_101) t_rRunOps_117)))
def t_rRunOps_119 : T :=
  .ite (.v 40) (.lets [.mk 1 [[.v 34], [.v 31]]] [] (.lets [.len (.v 41)] [] (.loop [.v 17, .v 18, .v 37, .c (.i .i64 0)] (.lets [.bin .lss (.v 46) (.v 42)] [] t_rRunOps_68)))) (.lets
  [.bin .eql (.v 22) (.c (.i .i64 5))] [] (.ite (.v 41) t_rRunOps_99 t_rRunOps_118))
def t_rRunOps_120 : T :=
  .ite (.v 39) (.lets [.mk 1 [[.v 31], [.v 31]]] [] (.lets [.len (.v 40)] [] (.loop [.v 17, .v 18, .v 37, .c (.i .i64 0)] (.lets [.bin .lss (.v 45) (.v 41)] [] t_rRunOps_64)))) (.lets
  [.bin .eql (.v 22) (.c (.i .i64 3))] [] t_rRunOps_119)
def t_rRunOps_121 : T :=
  .ite (.v 38) (.lets [.mk 1 [[.v 23]]] [] (.lets [.len (.v 39)] [] (.loop [.v 17, .v 18, .v 37, .c (.i .i64 0)] (.lets [.bin .lss (.v 44) (.v 40)] [] t_rRunOps_98)))) (.lets [.bin
  .eql (.v 22) (.c (.i .i64 2))] [] t_rRunOps_120)
def t_rRunOps_122 : T :=
  .lets [.len (.v 19)] [] (.lets [.bin .sub (.v 35) (.v 24)] [] (.lets [.sub 1 (.v 19) none (some (.v 36))] [] (.lets [.bin .eql (.v 22) (.c (.i .i64 1))] [] t_rRunOps_121)))
def t_rRunOps_123 : T :=
  .lets [.idx (.v 19) (.v 30) 0] [] (.lets [.len (.v 19)] [] (.lets [.bin .sub (.v 32) (.c (.i .i64 1))] [] (.lets [] [.inr 1 (.v 19) (.v 33)] (.lets [.idx (.v 19) (.v 33) 0] []
  t_rRunOps_122))))
def t_rRunOps_124 : T :=
  .ite (.v 44) (.ret [.c (.nil 1), .c (.b false)]) (.lets [.mk 1 [[.v 40]]] [] (.lets [.app 1 (.v 37) (.v 45)] [] (.lets [.bin .add (.v 38) (.c (.i .i64 1))] [] (.again 1 [.v 35, .v
  36, .v 46, .v 47]))))
def t_rRunOps_125 : T :=
  .lets [.bin .geq (.v 41) (.c (.i .i64 16))] [] (.ite (.v 42) (.ret [.c (.nil 1), .c (.b false)]) (.lets [.call 35 [.v 40] 0] [] (.lets [.not (.v 43)] [] t_rRunOps_124)))
def t_rRunOps_126 : T :=
  .ite (.v 39) (.lets [] [.inr 1 (.v 33) (.v 38)] (.lets [.idx (.v 33) (.v 38) 0] [] (.lets [.len (.v 37)] [] t_rRunOps_125))) (.lets [.bin .add (.v 20) (.c (.i .i64 1))] [] (.again 0
  [.v 35, .v 36, .v 37, .v 40]))
def t_rRunOps_127 : T :=
  .ite (.v 45) (.ret [.c (.nil 1), .c (.b false)]) (.lets [.mk 1 [[.v 41]]] [] (.lets [.app 1 (.v 38) (.v 46)] [] (.lets [.bin .add (.v 39) (.c (.i .i64 1))] [] (.again 1 [.v 36, .v
  37, .v 47, .v 48]))))
def t_rRunOps_128 : T :=
  .lets [.bin .geq (.v 42) (.c (.i .i64 16))] [] (.ite (.v 43) (.ret [.c (.nil 1), .c (.b false)]) (.lets [.call 35 [.v 41] 0] [] (.lets [.not (.v 44)] [] t_rRunOps_127)))
def t_rRunOps_129 : T :=
  .ite (.v 40) (.lets [] [.inr 1 (.v 34) (.v 39)] (.lets [.idx (.v 34) (.v 39) 0] [] (.lets [.len (.v 38)] [] t_rRunOps_128))) (.lets [.bin .add (.v 20) (.c (.i .i64 1))] [] (.again 0
  [.v 36, .v 37, .v 38, .v 41]))
def t_rRunOps_130 : T :=
  .lets [.mk 1 [[.c (.i .i64 0)], [.c (.i .i64 0)]]] [] (.lets [.len (.v 34)] [] (.loop [.v 17, .v 18, .v 31, .c (.i .i64 0)] (.lets [.bin .lss (.v 39) (.v 35)] [] t_rRunOps_129)))
def t_rRunOps_131 : T :=
  .ite (.v 46) (.ret [.c (.nil 1), .c (.b false)]) (.lets [.mk 1 [[.v 42]]] [] (.lets [.app 1 (.v 39) (.v 47)] [] (.lets [.bin .add (.v 40) (.c (.i .i64 1))] [] (.again 1 [.v 37, .v
  38, .v 48, .v 49]))))
def t_rRunOps_132 : T :=
  .lets [.bin .geq (.v 43) (.c (.i .i64 16))] [] (.ite (.v 44) (.ret [.c (.nil 1), .c (.b false)]) (.lets [.call 35 [.v 42] 0] [] (.lets [.not (.v 45)] [] t_rRunOps_131)))
def t_rRunOps_133 : T :=
  .ite (.v 41) (.lets [] [.inr 1 (.v 35) (.v 40)] (.lets [.idx (.v 35) (.v 40) 0] [] (.lets [.len (.v 39)] [] t_rRunOps_132))) (.lets [.bin .add (.v 20) (.c (.i .i64 1))] [] (.again 0
  [.v 37, .v 38, .v 39, .v 42]))
def t_rRunOps_134 : T :=
  .lets [.mk 1 [[.c (.i .i64 0)], [.c (.i .i64 0)]]] [] (.lets [.len (.v 35)] [] (.loop [.v 17, .v 18, .v 31, .c (.i .i64 0)] (.lets [.bin .lss (.v 40) (.v 36)] [] t_rRunOps_133)))
def t_rRunOps_135 : T :=
  .lets [.bin .add (.c (.i .i64 0)) (.c (.i .i64 0))] [] (.lets [.mk 1 [[.v 36]]] [] (.lets [.len (.v 37)] [] (.loop [.v 17, .v 18, .v 31, .c (.i .i64 0)] (.lets [.bin .lss (.v 42)
  (.v 38)] [] t_rRunOps_57))))
def t_rRunOps_136 : T :=
  .lets [.bin .sub (.c (.i .i64 0)) (.c (.i .i64 0))] [] (.lets [.mk 1 [[.v 37]]] [] (.lets [.len (.v 38)] [] (.loop [.v 17, .v 18, .v 31, .c (.i .i64 0)] (.lets [.bin .lss (.v 43)
  (.v 39)] [] t_rRunOps_60))))
def t_rRunOps_137 : T :=
  .ite (.v 39) (.lets [.mk 1 [[.c (.i .i64 1)]]] [] (.lets [.len (.v 40)] [] (.loop [.v 17, .v 18, .v 31, .c (.i .i64 0)] (.lets [.bin .lss (.v 45) (.v 41)] [] t_rRunOps_64)))) (.lets
  [.mk 1 [[.c (.i .i64 0)]]] [] (.lets [.len (.v 40)] [] (.loop [.v 17, .v 18, .v 31, .c (.i .i64 0)] (.lets [.bin .lss (.v 45) (.v 41)] [] t_rRunOps_64))))
def t_rRunOps_138 : T :=
  .ite (.v 41) (.lets [.mk 1 [[.c (.i .i64 1)]]] [] (.lets [.len (.v 42)] [] (.loop [.v 17, .v 18, .v 31, .c (.i .i64 0)] (.lets [.bin .lss (.v 47) (.v 43)] [] t_rRunOps_2)))) (.lets
  [.mk 1 [[.c (.i .i64 0)]]] [] (.lets [.len (.v 42)] [] (.loop [.v 17, .v 18, .v 31, .c (.i .i64 0)] (.lets [.bin .lss (.v 47) (.v 43)] [] t_rRunOps_2))))
def t_rRunOps_139 : T :=
  .lets [.bin .add (.v 48) (.c (.i .i64 104729))] [] (.lets [.bin .rem (.v 49) (.c (.i .i64 1000003))] [] (.lets [.bin .add (.v 46) (.c (.i .i64 1))] [] (.again 1 [.v 50, .v 51])))
def t_rRunOps_140 : T :=
  .ite (.v 60) (.ret [.c (.nil 1), .c (.b false)]) (.lets [.mk 1 [[.v 56]]] [] (.lets [.app 1 (.v 53) (.v 61)] [] (.lets [.bin .add (.v 54) (.c (.i .i64 1))] [] (.again 2 [.v 51, .v
  52, .v 62, .v 63]))))
def t_rRunOps_141 : T :=
  .lets [.bin .geq (.v 57) (.c (.i .i64 16))] [] (.ite (.v 58) (.ret [.c (.nil 1), .c (.b false)]) (.lets [.call 35 [.v 56] 0] [] (.lets [.not (.v 59)] [] t_rRunOps_140)))
def t_rRunOps_142 : T :=
  .ite (.v 55) (.lets [] [.inr 1 (.v 49) (.v 54)] (.lets [.idx (.v 49) (.v 54) 0] [] (.lets [.len (.v 53)] [] t_rRunOps_141))) (.lets [.bin .add (.v 20) (.c (.i .i64 1))] [] (.again 0
  [.v 51, .v 52, .v 53, .v 56]))
def t_rRunOps_143 : T :=
  .lets [.bin .rem (.v 45) (.c (.i .i64 1000001))] [] (.lets [.mk 1 [[.v 48]]] [] (.lets [.len (.v 49)] [] (.loop [.v 17, .v 18, .v 31, .c (.i .i64 0)] (.lets [.bin .lss (.v 54) (.v
  50)] [] t_rRunOps_142))))
def t_rRunOps_144 : T :=
  .loop [.v 44, .c (.i .i64 0)] (.lets [.bin .lss (.v 46) (.c (.i .i64 3))] [] (.ite (.v 47) (.lets [.bin .mul (.v 45) (.c (.i .i64 7919))] [] t_rRunOps_139) t_rRunOps_143))
def t_rRunOps_145 : T :=
  .ite (.v 49) (.lets [] [.inr 1 (.c (.nil 1)) (.v 48)] (.lets [.idx (.c (.nil 1)) (.v 48) 0] [] (.lets [.len (.v 47)] [] t_rRunOps_4))) (.lets [.bin .add (.v 20) (.c (.i .i64 1))] []
  (.again 0 [.v 45, .v 46, .v 47, .v 50]))
def t_rRunOps_146 : T :=
  .ite (.v 43) (.lets [.bin .add (.c (.i .i64 0)) (.c (.i .i64 1000000))] [] t_rRunOps_144) (.lets [.len (.c (.nil 1))] [] (.loop [.v 17, .v 18, .v 31, .c (.i .i64 0)] (.lets [.bin
  .lss (.v 48) (.v 44)] [] t_rRunOps_145)))
def t_rRunOps_147 : T :=
  .ite (.v 42) (.lets [.mk 1 [[.v 2]]] [] (.lets [.len (.v 43)] [] (.loop [.v 17, .v 18, .v 31, .c (.i .i64 0)] (.lets [.bin .lss (.v 48) (.v 44)] [] t_rRunOps_5)))) (.lets [.bin .eql
  (.v 22) (.c (.i .i64 13))] [] t_rRunOps_146)
def t_rRunOps_148 : T :=
  .ite (.v 40) (.lets [.mk 1 [[.c (.i .i64 1)]]] [] (.lets [.len (.v 41)] [] (.loop [.v 17, .v 18, .v 31, .c (.i .i64 0)] (.lets [.bin .lss (.v 46) (.v 42)] [] t_rRunOps_68)))) (.lets
  [.bin .eql (.v 22) (.c (.i .i64 11))] [] (.ite (.v 41) (.ret [.c (.nil 1), .c (.b false)]) (.lets [.bin .eql (.v 22) (.c (.i .i64 12))] [] t_rRunOps_147)))
def t_rRunOps_149 : T :=
  .ite (.v 39) (.lets [.bin .mul (.c (.i .i64 0)) (.c (.i .i64 0))] [] (.lets [.bin .neq (.v 40) (.c (.i .i64 0))] [] t_rRunOps_138)) (.lets [.bin .eql (.v 22) (.c (.i .i64 9))] []
  t_rRunOps_148)
def t_rRunOps_150 : T :=
  .lets [.bin .eql (.v 22) (.c (.i .i64 8))] [] (.ite (.v 38) (.lets [.bin .lss (.c (.i .i64 0)) (.c (.i .i64 0))] [] t_rRunOps_137) (.lets [.bin .eql (.v 22) (.c (.i .i64 10))] []
  t_rRunOps_149))
def t_rRunOps_151 : T :=
  .ite (.v 37) (.lets [.mk 1 [[.c (.i .i64 1)]]] [] (.lets [.len (.v 38)] [] (.loop [.v 17, .v 18, .v 31, .c (.i .i64 0)] (.lets [.bin .lss (.v 43) (.v 39)] [] t_rRunOps_60))))
  t_rRunOps_150
def t_rRunOps_152 : T :=
  .ite (.v 35) t_rRunOps_135 (.lets [.bin .eql (.v 22) (.c (.i .i64 6))] [] (.ite (.v 36) t_rRunOps_136 (.lets [.bin .eql (.v 22) (.c (.i .i64 7))] [] t_rRunOps_151)))
def t_rRunOps_153 : T :=
  .ite (.v 33) t_rRunOps_130 (.lets [.bin .eql (.v 22) (.c (.i .i64 3))] [] (.ite (.v 34) t_rRunOps_134 (.lets [.bin .eql (.v 22) (.c (.i .i64 5))] [] t_rRunOps_152)))
def t_rRunOps_154 : T :=
  .ite (.v 32) (.lets [.mk 1 [[.v 23]]] [] (.lets [.len (.v 33)] [] (.loop [.v 17, .v 18, .v 31, .c (.i .i64 0)] (.lets [.bin .lss (.v 38) (.v 34)] [] t_rRunOps_126)))) (.lets [.bin
  .eql (.v 22) (.c (.i .i64 2))] [] t_rRunOps_153)
def t_rRunOps_155 : T :=
  .lets [.len (.v 19)] [] (.lets [.bin .sub (.v 29) (.v 24)] [] (.lets [.sub 1 (.v 19) none (some (.v 30))] [] (.lets [.bin .eql (.v 22) (.c (.i .i64 1))] [] t_rRunOps_154)))
def t_rRunOps_156 : T :=
  .lets [.bin .eql (.v 24) (.c (.i .i64 2))] [] (.ite (.v 28) (.lets [.len (.v 19)] [] (.lets [.bin .sub (.v 29) (.c (.i .i64 2))] [] (.lets [] [.inr 1 (.v 19) (.v 30)]
  t_rRunOps_123))) t_rRunOps_155)
def t_rRunOps_157 : T :=
  .ite (.v 27) (.lets [.len (.v 19)] [] (.lets [.bin .sub (.v 28) (.c (.i .i64 1))] [] (.lets [] [.inr 1 (.v 19) (.v 29)] (.lets [.idx (.v 19) (.v 29) 0] [] t_rRunOps_95))))
  t_rRunOps_156
def t_rRunOps_158 : T :=
  .lets [.len (.v 19)] [] (.lets [.bin .lss (.v 25) (.v 24)] [] (.ite (.v 26) (.ret [.c (.nil 1), .c (.b false)]) (.lets [.bin .eql (.v 24) (.c (.i .i64 1))] [] t_rRunOps_157)))
def t_rRunOps_159 : T :=
  .ite (.v 21) (.lets [] [.inr 2 (.v 0) (.v 20)] (.lets [.idx (.v 0) (.v 20) 0, .idx (.v 0) (.v 20) 1] [] (.lets [.mget [.i .i64 0] (.v 15) (.v 22) 0] [] t_rRunOps_158))) (.ret [.v
  19, .c (.b true)])
def t_rRunOps_160 : T :=
  .lets [.mput 1 (.v 14) (.c (.i .i64 13)) [.c (.i .i64 1)]] [] (.lets [.len (.v 0)] [] (.loop [.c (.nil 1), .c (.b false), .v 4, .c (.i .i64 0)] (.lets [.bin .lss (.v 20) (.v 16)] []
  t_rRunOps_159)))
def t_rRunOps_161 : T :=
  .lets [.mput 1 (.v 11) (.c (.i .i64 9)) [.c (.i .i64 1)]] [] (.lets [.mput 1 (.v 12) (.c (.i .i64 10)) [.c (.i .i64 2)]] [] (.lets [.mput 1 (.v 13) (.c (.i .i64 11)) [.c (.i .i64
  1)]] [] t_rRunOps_160))
def t_rRunOps_162 : T :=
  .lets [.mput 1 (.v 8) (.c (.i .i64 6)) [.c (.i .i64 2)]] [] (.lets [.mput 1 (.v 9) (.c (.i .i64 7)) [.c (.i .i64 2)]] [] (.lets [.mput 1 (.v 10) (.c (.i .i64 8)) [.c (.i .i64 2)]]
  [] t_rRunOps_161))
def t_rRunOps_163 : T :=
  .lets [.mput 1 (.v 5) (.c (.i .i64 3)) [.c (.i .i64 2)]] [] (.lets [.mput 1 (.v 6) (.c (.i .i64 4)) [.c (.i .i64 1)]] [] (.lets [.mput 1 (.v 7) (.c (.i .i64 5)) [.c (.i .i64 2)]] []
  t_rRunOps_162))
def t_rRunOps : T :=
  .lets [.mk 1 []] [] (.lets [.app 1 (.v 3) (.v 1)] [] (.lets [.mput 1 (.c (.nil 2)) (.c (.i .i64 2)) [.c (.i .i64 1)]] [] t_rRunOps_163))
def t_rOpened_0 : T :=
  .ite (.v 8) (.lets [] [.inr 1 (.v 5) (.c (.i .i64 0))] (.lets [.idx (.v 5) (.c (.i .i64 0)) 0] [] (.lets [.bin .neq (.v 9) (.c (.i .i64 0))] [] (.ret [.v 10])))) (.ret [.c (.b
  false)])
def t_rOpened_1 : T :=
  .lets [.call 36 [.v 0, .v 3, .v 2] 0, .call 36 [.v 0, .v 3, .v 2] 1] [] (.ite (.v 6) (.lets [.len (.v 5)] [] (.lets [.bin .eql (.v 7) (.c (.i .i64 1))] [] t_rOpened_0)) (.ret [.c
  (.b false)]))
def t_rOpened : T :=
  .lets [.call 36 [.v 1, .c (.nil 1), .v 2] 0, .call 36 [.v 1, .c (.nil 1), .v 2] 1] [] (.ite (.v 4) t_rOpened_1 (.ret [.c (.b false)]))
theorem m_rFits : Meets Tryd.prog sp_rFits 39 ⟨[.one], [(false, [.scal])], true⟩ := by
  refine meets_fast (sp := (spsOf [])) (sigs := sigsA) (cut := []) (hints := []) (fn := Tryd.f39) (t := t_rFits) (by kernel_rfl) (by kernel_rfl) (by kernel_rfl) ?_ ?_
  · exact (sig_of (L := []) trivial)
  · rintro ds rs - h
    obtain ⟨n, -, rfl, rfl⟩ := spD_some h
    clear h
    refine ⟨⟨1, ?_⟩, scalOk_1 rfl⟩
    show den _ _ t_rFits [I n] [] = ret (decide (-1000000 ≤ n ∧ n ≤ 1000000))
    rw [Bool.decide_and]
    unfold t_rFits
    repeat' (first | refine dq1 ?_ | refine dqc ?_ | refine dqm ?_ | exact den_ret rfl rfl | refine tR (fun h => ?_) fun h => ?_ | refine tB (fun h => ?_) fun h => ?_ | refine tC (fun h => ?_) fun h => ?_ | refine tN (fun h => ?_) fun h => ?_ | refine tF (fun h => ?_) fun h => ?_ | refine tG (fun h => ?_) fun h => ?_ | refine tP (fun h => ?_) fun h => ?_ | refine tQ (fun h => ?_) fun h => ?_ | refine tA (fun h => ?_) fun h => ?_ | refine tO (fun h => ?_) fun h => ?_ | refine tU (fun h => ?_) fun h => ?_ | refine tV (fun h => ?_) fun h => ?_ | refine dqT ?_ | refine dqF ?_ | refine den_t rfl ?_ | refine den_f rfl ?_ | refine dqTn ?_ | refine dqFn ?_)
noncomputable def sp_rRunOps : Spec := spD (fun x : List Op × List Int × Int => opsCheck x.1 = 0 ∧ StackOK x.2.1) fun x => ranR (runM x.2.2 x.2.1 x.1)
theorem sp_rRunOps_at (l : List Op) (s : List Int) (h : Int) (hl : opsCheck l = 0) (hs : StackOK s) : sp_rRunOps [.l 2 (l.map eOp), .l 1 (s.map eInt), I h] = some [.l 1 ((ranR (runM h s l)).1.map eInt), .b (ranR (runM h s l)).2] := spD_at (p := fun x : List Op × List Int × Int => opsCheck x.1 = 0 ∧ StackOK x.2.1) (f := fun x : List Op × List Int × Int => ranR (runM x.2.2 x.2.1 x.1)) (l, s, h) ⟨hl, hs⟩
theorem den_remY {sp : Nat → Spec} {E : Env} {a b : Atom} {m n y : Int} (ha : a.val E = some (I m)) (hb : b.val E = some (I n)) (h : n ≠ 0) (hy : m.tmod n = y) : denX sp E (.bin .rem a b) = some (I y) := by
  rw [den_rem ha hb h, hy]
theorem opBad_ok' {o : Op} (h : opBad o = 0) : 1 ≤ o.kind ∧ o.kind ≤ 13 := by
  unfold opBad at h
  split at h
  · cases h
  · split at h
    · cases h
    · omega
theorem opsAll {l : List Op} (h : opsCheck l = 0) : l.length ≤ 16 ∧ ∀ o ∈ l, opBad o = 0 := by
  have key : ∀ l : List Op, opsGo l = 0 → ∀ o ∈ l, opBad o = 0 := by
    intro l
    induction l with
    | nil => intro _ o ho; cases ho
    | cons x l ih =>
      intro h
      rw [opsGo] at h
      split at h
      · rename_i hx; exact absurd h hx
      · rename_i hx
        intro o ho
        rcases List.mem_cons.1 ho with rfl | ho
        · exact Decidable.not_not.1 hx
        · exact ih h o ho
  unfold opsCheck at h
  split at h
  · cases h
  · exact ⟨by omega, key l h⟩
noncomputable def spsRun : Nat → Spec := spsOf [(35, sp_rFits)]
def loopOf : T → T
  | .lets _ _ k => loopOf k
  | .loop _ b => b
  | t => t
def runE (l : List Op) (s0 : List Int) (ht : Int) : Env := [.l 2 (l.map eOp), .l 1 (s0.map eInt), I ht, .l 1 [], .l 1 (s0.map eInt), .l 2 [[I 2, I 1]], .l 2 [[I 2, I 1], [I 3, I 2]], .l 2 [[I 2, I 1], [I 3, I 2], [I 4, I 1]], .l 2 [[I 2, I 1], [I 3, I 2], [I 4, I 1], [I 5, I 2]], .l 2 [[I 2, I 1], [I 3, I 2], [I 4, I 1], [I 5, I 2], [I 6, I 2]], .l 2 [[I 2, I 1], [I 3, I 2], [I 4, I 1], [I 5, I 2], [I 6, I 2], [I 7, I 2]], .l 2 [[I 2, I 1], [I 3, I 2], [I 4, I 1], [I 5, I 2], [I 6, I 2], [I 7, I 2], [I 8, I 2]], .l 2 [[I 2, I 1], [I 3, I 2], [I 4, I 1], [I 5, I 2], [I 6, I 2], [I 7, I 2], [I 8, I 2], [I 9, I 1]], .l 2 [[I 2, I 1], [I 3, I 2], [I 4, I 1], [I 5, I 2], [I 6, I 2], [I 7, I 2], [I 8, I 2], [I 9, I 1], [I 10, I 2]], .l 2 [[I 2, I 1], [I 3, I 2], [I 4, I 1], [I 5, I 2], [I 6, I 2], [I 7, I 2], [I 8, I 2], [I 9, I 1], [I 10, I 2], [I 11, I 1]], .l 2 [[I 2, I 1], [I 3, I 2], [I 4, I 1], [I 5, I 2], [I 6, I 2], [I 7, I 2], [I 8, I 2], [I 9, I 1], [I 10, I 2], [I 11, I 1], [I 13, I 1]], I l.length]
def RStep (kd : Int) : Prop := ∀ (l : List Op) (s0 s : List Int) (ht nn : Int) (k : Nat) (R : List Int × Bool) (again : List Dt → Option (List Dt)), l.length ≤ 16 → s.length ≤ 16 → StackOK s → k < l.length → l[k]? = some ⟨kd, nn⟩ →
  (stepM ht s ⟨kd, nn⟩ = none → R = ([], false)) → (∀ s', stepM ht s ⟨kd, nn⟩ = some s' → again [.l 1 (([] : List Int).map eInt), .b false, .l 1 (s'.map eInt), I ((k : Int) + 1)] = ret R) →
  den spsRun (l.length + 6) (loopOf t_rRunOps) (runE l s0 ht ++ [.l 1 (([] : List Int).map eInt), .b false, .l 1 (s.map eInt), I k]) [again] = ret R
theorem pop_cases {s : List Int} (hfit : StackOK s) : (s.length = 0 ∧ popM s = none) ∨ (∃ a t, Fits a ∧ popM s = some (a, t) ∧ (s.length : Int) = t.length + 1 ∧ s[((s.length : Int) - 1).toNat]? = some a ∧ s.take ((s.length : Int) - 1).toNat = t ∧ ((t.length = 0 ∧ popM t = none) ∨ ∃ b u, Fits b ∧ popM t = some (b, u) ∧ (t.length : Int) = u.length + 1 ∧ s[((s.length : Int) - 2).toNat]? = some b ∧ s.take ((s.length : Int) - 2).toNat = u)) := by
  by_cases h0 : s.length = 0
  · exact .inl ⟨h0, popM_none h0⟩
  · obtain ⟨a, t, p1, p2, p3, p4, p5⟩ := popM_some h0
    have f1 := popM_ok hfit p1
    refine .inr ⟨a, t, f1.1, p1, p3, p4, p5, ?_⟩
    by_cases h1 : t.length = 0
    · exact .inl ⟨h1, popM_none h1⟩
    · obtain ⟨b, u, q1, q2, q3, q4, q5⟩ := popM_some h1
      have e1 : ((s.length : Int) - 2).toNat = u.length := by omega
      refine .inr ⟨b, u, (popM_ok f1.2 q1).1, q1, q3, ?_, ?_⟩
      · rw [e1, p2, q2]; simp
      · rw [e1, p2, q2]; simp
theorem dx_mgetR {sp : Nat → Spec} {E : Env} {z : List Lit} {a ka : Atom} {j : Nat} {l : Nat} {rows : List (List Dt)} {n : Int} {d : Dt} (ha : a.val E = some (.l l rows)) (hk : ka.val E = some (I n)) (h : (match mfind n rows with | some v => v[j]? | none => (z[j]?).map Lit.dt) = some d) : denX sp E (.mget z a ka j) = some d := by
  simp only [denX, ha, hk, asI]
  exact h
end Go.Proofs.YtajaacgchhmbjaaDoor
namespace Go.Proofs.YtajaacgchhmbjaaDoor
open Go.RowKit
set_option linter.unusedVariables false
set_option linter.unusedSimpArgs false
set_option maxRecDepth 100000
set_option maxHeartbeats 8000000
attribute [local irreducible] specOf spD ordP mixI bitI sp_rFits
attribute [local irreducible] den denX denXs holdXs
theorem rstep_1 : RStep 1 := by
  intro l s0 s ht nn k R again' hl16 hsl hfit hk hx hF hO; have hcase := pop_cases hfit; have hs0t : s.take (((s.length : Nat) : Int) - 0).toNat = s := (by rw [show (((s.length : Nat) : Int) - 0).toNat = s.length by omega]; exact List.take_length); simp only [stepM, Int.reduceEq, if_true, if_false] at hF hO; unfold runE; with_unfolding_all show den spsRun _ (loopOf t_rRunOps) [_, _, _, _, _, _, _, _, _, _, _, _, _, _, _, _, _, _, _, _, _] _ = _; simp only [t_rRunOps, loopOf]
  rcases hcase with ⟨c1, c2⟩ | ⟨a, t, fa, p1, p3, p4, p5, ⟨c1, c2⟩ | ⟨b, u, fb, q1, q3, q4, q5⟩⟩
  · try simp only [c2, twoM, oneM, Option.bind_none] at hF hO
    repeat' (first | refine dq1 ?_ | refine dqc ?_ | refine dqm ?_ | refine dqk rfl (sp_rFits_at _) ?_ | refine dqK rfl (sp_rFits_at _) ?_ | refine dqT ?_ | refine dqF ?_ | refine den_t rfl ?_ | refine den_f rfl ?_ | refine dqTn ?_ | refine dqFn ?_ | refine den_let1 (dx_mgetR (d := I 2) rfl rfl rfl) ?_ | refine den_let1 (dx_mgetR (d := I 1) rfl rfl rfl) ?_ | refine den_let1 (dx_mgetR (d := I 0) rfl rfl rfl) ?_ | refine den_ck (hold_inr rfl rfl (by omega) (by simp)) ?_ | refine den_let1 (den_idx rfl rfl (by omega) rfl rfl) ?_ | refine den_let1 (den_mk rfl rfl (by simp)) ?_ | refine den_let1 (den_len rfl rfl) ?_ | refine den_let1 (den_mul rfl rfl (by omega)) ?_ | refine den_let1 (den_remY rfl rfl (by decide) (by assumption)) ?_ | exact den_ret rfl (by rw [hF (by (repeat' (first | rfl | rw [pushM_none (by first | omega | (simp only [List.length_append, List.length_cons, List.length_nil] at *; omega))] | rw [pushM_some (by first | omega | (simp only [List.length_append, List.length_cons, List.length_nil] at *; omega)) (by omega) (by omega)] | rw [if_pos (by omega)] | rw [if_neg (by omega)] | simp only [Option.bind_some, Option.bind_none])))]; rfl) | exact den_ret rfl (by rw [hF]; rfl) | exact den_again rfl rfl (hO _ (by (repeat' (first | rfl | rw [pushM_none (by first | omega | (simp only [List.length_append, List.length_cons, List.length_nil] at *; omega))] | rw [pushM_some (by first | omega | (simp only [List.length_append, List.length_cons, List.length_nil] at *; omega)) (by omega) (by omega)] | rw [if_pos (by omega)] | rw [if_neg (by omega)] | simp only [Option.bind_some, Option.bind_none])))) | (refine den_loop rfl ?_; rw [iterT]) | (refine den_again rfl rfl ?_; rw [iterT]) | refine den_sp rfl (fun h => ?_) (fun h => ?_) | refine tZn (fun h => ?_) (fun h => ?_))
  · try simp only [p1, c2, twoM, oneM, Option.bind_none, Option.bind_some] at hF hO
    obtain ⟨fa1, fa2⟩ := id fa
    repeat' (first | refine dq1 ?_ | refine dqc ?_ | refine dqm ?_ | refine dqk rfl (sp_rFits_at _) ?_ | refine dqK rfl (sp_rFits_at _) ?_ | refine dqT ?_ | refine dqF ?_ | refine den_t rfl ?_ | refine den_f rfl ?_ | refine dqTn ?_ | refine dqFn ?_ | refine den_let1 (dx_mgetR (d := I 2) rfl rfl rfl) ?_ | refine den_let1 (dx_mgetR (d := I 1) rfl rfl rfl) ?_ | refine den_let1 (dx_mgetR (d := I 0) rfl rfl rfl) ?_ | refine den_ck (hold_inr rfl rfl (by omega) (by simp)) ?_ | refine den_let1 (den_idx rfl rfl (by omega) rfl rfl) ?_ | refine den_let1 (den_mk rfl rfl (by simp)) ?_ | refine den_let1 (den_len rfl rfl) ?_ | refine den_let1 (den_mul rfl rfl (by omega)) ?_ | refine den_let1 (den_remY rfl rfl (by decide) (by assumption)) ?_ | exact den_ret rfl (by rw [hF (by (repeat' (first | rfl | rw [pushM_none (by first | omega | (simp only [List.length_append, List.length_cons, List.length_nil] at *; omega))] | rw [pushM_some (by first | omega | (simp only [List.length_append, List.length_cons, List.length_nil] at *; omega)) (by omega) (by omega)] | rw [if_pos (by omega)] | rw [if_neg (by omega)] | simp only [Option.bind_some, Option.bind_none])))]; rfl) | exact den_ret rfl (by rw [hF]; rfl) | exact den_again rfl rfl (hO _ (by (repeat' (first | rfl | rw [pushM_none (by first | omega | (simp only [List.length_append, List.length_cons, List.length_nil] at *; omega))] | rw [pushM_some (by first | omega | (simp only [List.length_append, List.length_cons, List.length_nil] at *; omega)) (by omega) (by omega)] | rw [if_pos (by omega)] | rw [if_neg (by omega)] | simp only [Option.bind_some, Option.bind_none])))) | (refine den_loop rfl ?_; rw [iterT]) | (refine den_again rfl rfl ?_; rw [iterT]) | refine den_sp rfl (fun h => ?_) (fun h => ?_) | refine tZn (fun h => ?_) (fun h => ?_))
  · try simp only [p1, q1, twoM, oneM, Option.bind_none, Option.bind_some] at hF hO
    obtain ⟨fa1, fa2⟩ := id fa
    obtain ⟨fb1, fb2⟩ := id fb
    repeat' (first | refine dq1 ?_ | refine dqc ?_ | refine dqm ?_ | refine dqk rfl (sp_rFits_at _) ?_ | refine dqK rfl (sp_rFits_at _) ?_ | refine dqT ?_ | refine dqF ?_ | refine den_t rfl ?_ | refine den_f rfl ?_ | refine dqTn ?_ | refine dqFn ?_ | refine den_let1 (dx_mgetR (d := I 2) rfl rfl rfl) ?_ | refine den_let1 (dx_mgetR (d := I 1) rfl rfl rfl) ?_ | refine den_let1 (dx_mgetR (d := I 0) rfl rfl rfl) ?_ | refine den_ck (hold_inr rfl rfl (by omega) (by simp)) ?_ | refine den_let1 (den_idx rfl rfl (by omega) rfl rfl) ?_ | refine den_let1 (den_mk rfl rfl (by simp)) ?_ | refine den_let1 (den_len rfl rfl) ?_ | refine den_let1 (den_mul rfl rfl (by omega)) ?_ | refine den_let1 (den_remY rfl rfl (by decide) (by assumption)) ?_ | exact den_ret rfl (by rw [hF (by (repeat' (first | rfl | rw [pushM_none (by first | omega | (simp only [List.length_append, List.length_cons, List.length_nil] at *; omega))] | rw [pushM_some (by first | omega | (simp only [List.length_append, List.length_cons, List.length_nil] at *; omega)) (by omega) (by omega)] | rw [if_pos (by omega)] | rw [if_neg (by omega)] | simp only [Option.bind_some, Option.bind_none])))]; rfl) | exact den_ret rfl (by rw [hF]; rfl) | exact den_again rfl rfl (hO _ (by (repeat' (first | rfl | rw [pushM_none (by first | omega | (simp only [List.length_append, List.length_cons, List.length_nil] at *; omega))] | rw [pushM_some (by first | omega | (simp only [List.length_append, List.length_cons, List.length_nil] at *; omega)) (by omega) (by omega)] | rw [if_pos (by omega)] | rw [if_neg (by omega)] | simp only [Option.bind_some, Option.bind_none])))) | (refine den_loop rfl ?_; rw [iterT]) | (refine den_again rfl rfl ?_; rw [iterT]) | refine den_sp rfl (fun h => ?_) (fun h => ?_) | refine tZn (fun h => ?_) (fun h => ?_))
theorem rstep_2 : RStep 2 := by
  intro l s0 s ht nn k R again' hl16 hsl hfit hk hx hF hO; have hcase := pop_cases hfit; have hs0t : s.take (((s.length : Nat) : Int) - 0).toNat = s := (by rw [show (((s.length : Nat) : Int) - 0).toNat = s.length by omega]; exact List.take_length); simp only [stepM, Int.reduceEq, if_true, if_false] at hF hO; unfold runE; with_unfolding_all show den spsRun _ (loopOf t_rRunOps) [_, _, _, _, _, _, _, _, _, _, _, _, _, _, _, _, _, _, _, _, _] _ = _; simp only [t_rRunOps, loopOf]
  rcases hcase with ⟨c1, c2⟩ | ⟨a, t, fa, p1, p3, p4, p5, ⟨c1, c2⟩ | ⟨b, u, fb, q1, q3, q4, q5⟩⟩
  · try simp only [c2, twoM, oneM, Option.bind_none] at hF hO
    repeat' (first | refine dq1 ?_ | refine dqc ?_ | refine dqm ?_ | refine dqk rfl (sp_rFits_at _) ?_ | refine dqK rfl (sp_rFits_at _) ?_ | refine dqT ?_ | refine dqF ?_ | refine den_t rfl ?_ | refine den_f rfl ?_ | refine dqTn ?_ | refine dqFn ?_ | refine den_let1 (dx_mgetR (d := I 2) rfl rfl rfl) ?_ | refine den_let1 (dx_mgetR (d := I 1) rfl rfl rfl) ?_ | refine den_let1 (dx_mgetR (d := I 0) rfl rfl rfl) ?_ | refine den_ck (hold_inr rfl rfl (by omega) (by simp)) ?_ | refine den_let1 (den_idx rfl rfl (by omega) rfl rfl) ?_ | refine den_let1 (den_mk rfl rfl (by simp)) ?_ | refine den_let1 (den_len rfl rfl) ?_ | refine den_let1 (den_mul rfl rfl (by omega)) ?_ | refine den_let1 (den_remY rfl rfl (by decide) (by assumption)) ?_ | exact den_ret rfl (by rw [hF (by (repeat' (first | rfl | rw [pushM_none (by first | omega | (simp only [List.length_append, List.length_cons, List.length_nil] at *; omega))] | rw [pushM_some (by first | omega | (simp only [List.length_append, List.length_cons, List.length_nil] at *; omega)) (by omega) (by omega)] | rw [if_pos (by omega)] | rw [if_neg (by omega)] | simp only [Option.bind_some, Option.bind_none])))]; rfl) | exact den_ret rfl (by rw [hF]; rfl) | exact den_again rfl rfl (hO _ (by (repeat' (first | rfl | rw [pushM_none (by first | omega | (simp only [List.length_append, List.length_cons, List.length_nil] at *; omega))] | rw [pushM_some (by first | omega | (simp only [List.length_append, List.length_cons, List.length_nil] at *; omega)) (by omega) (by omega)] | rw [if_pos (by omega)] | rw [if_neg (by omega)] | simp only [Option.bind_some, Option.bind_none])))) | (refine den_loop rfl ?_; rw [iterT]) | (refine den_again rfl rfl ?_; rw [iterT]) | refine den_sp rfl (fun h => ?_) (fun h => ?_) | refine tZn (fun h => ?_) (fun h => ?_))
  · try simp only [p1, c2, twoM, oneM, Option.bind_none, Option.bind_some] at hF hO
    obtain ⟨fa1, fa2⟩ := id fa
    repeat' (first | refine dq1 ?_ | refine dqc ?_ | refine dqm ?_ | refine dqk rfl (sp_rFits_at _) ?_ | refine dqK rfl (sp_rFits_at _) ?_ | refine dqT ?_ | refine dqF ?_ | refine den_t rfl ?_ | refine den_f rfl ?_ | refine dqTn ?_ | refine dqFn ?_ | refine den_let1 (dx_mgetR (d := I 2) rfl rfl rfl) ?_ | refine den_let1 (dx_mgetR (d := I 1) rfl rfl rfl) ?_ | refine den_let1 (dx_mgetR (d := I 0) rfl rfl rfl) ?_ | refine den_ck (hold_inr rfl rfl (by omega) (by simp)) ?_ | refine den_let1 (den_idx rfl rfl (by omega) rfl rfl) ?_ | refine den_let1 (den_mk rfl rfl (by simp)) ?_ | refine den_let1 (den_len rfl rfl) ?_ | refine den_let1 (den_mul rfl rfl (by omega)) ?_ | refine den_let1 (den_remY rfl rfl (by decide) (by assumption)) ?_ | exact den_ret rfl (by rw [hF (by (repeat' (first | rfl | rw [pushM_none (by first | omega | (simp only [List.length_append, List.length_cons, List.length_nil] at *; omega))] | rw [pushM_some (by first | omega | (simp only [List.length_append, List.length_cons, List.length_nil] at *; omega)) (by omega) (by omega)] | rw [if_pos (by omega)] | rw [if_neg (by omega)] | simp only [Option.bind_some, Option.bind_none])))]; rfl) | exact den_ret rfl (by rw [hF]; rfl) | exact den_again rfl rfl (hO _ (by (repeat' (first | rfl | rw [pushM_none (by first | omega | (simp only [List.length_append, List.length_cons, List.length_nil] at *; omega))] | rw [pushM_some (by first | omega | (simp only [List.length_append, List.length_cons, List.length_nil] at *; omega)) (by omega) (by omega)] | rw [if_pos (by omega)] | rw [if_neg (by omega)] | simp only [Option.bind_some, Option.bind_none])))) | (refine den_loop rfl ?_; rw [iterT]) | (refine den_again rfl rfl ?_; rw [iterT]) | refine den_sp rfl (fun h => ?_) (fun h => ?_) | refine tZn (fun h => ?_) (fun h => ?_))
  · try simp only [p1, q1, twoM, oneM, Option.bind_none, Option.bind_some] at hF hO
    obtain ⟨fa1, fa2⟩ := id fa
    obtain ⟨fb1, fb2⟩ := id fb
    repeat' (first | refine dq1 ?_ | refine dqc ?_ | refine dqm ?_ | refine dqk rfl (sp_rFits_at _) ?_ | refine dqK rfl (sp_rFits_at _) ?_ | refine dqT ?_ | refine dqF ?_ | refine den_t rfl ?_ | refine den_f rfl ?_ | refine dqTn ?_ | refine dqFn ?_ | refine den_let1 (dx_mgetR (d := I 2) rfl rfl rfl) ?_ | refine den_let1 (dx_mgetR (d := I 1) rfl rfl rfl) ?_ | refine den_let1 (dx_mgetR (d := I 0) rfl rfl rfl) ?_ | refine den_ck (hold_inr rfl rfl (by omega) (by simp)) ?_ | refine den_let1 (den_idx rfl rfl (by omega) rfl rfl) ?_ | refine den_let1 (den_mk rfl rfl (by simp)) ?_ | refine den_let1 (den_len rfl rfl) ?_ | refine den_let1 (den_mul rfl rfl (by omega)) ?_ | refine den_let1 (den_remY rfl rfl (by decide) (by assumption)) ?_ | exact den_ret rfl (by rw [hF (by (repeat' (first | rfl | rw [pushM_none (by first | omega | (simp only [List.length_append, List.length_cons, List.length_nil] at *; omega))] | rw [pushM_some (by first | omega | (simp only [List.length_append, List.length_cons, List.length_nil] at *; omega)) (by omega) (by omega)] | rw [if_pos (by omega)] | rw [if_neg (by omega)] | simp only [Option.bind_some, Option.bind_none])))]; rfl) | exact den_ret rfl (by rw [hF]; rfl) | exact den_again rfl rfl (hO _ (by (repeat' (first | rfl | rw [pushM_none (by first | omega | (simp only [List.length_append, List.length_cons, List.length_nil] at *; omega))] | rw [pushM_some (by first | omega | (simp only [List.length_append, List.length_cons, List.length_nil] at *; omega)) (by omega) (by omega)] | rw [if_pos (by omega)] | rw [if_neg (by omega)] | simp only [Option.bind_some, Option.bind_none])))) | (refine den_loop rfl ?_; rw [iterT]) | (refine den_again rfl rfl ?_; rw [iterT]) | refine den_sp rfl (fun h => ?_) (fun h => ?_) | refine tZn (fun h => ?_) (fun h => ?_))
theorem rstep_3 : RStep 3 := by
  intro l s0 s ht nn k R again' hl16 hsl hfit hk hx hF hO; have hcase := pop_cases hfit; have hs0t : s.take (((s.length : Nat) : Int) - 0).toNat = s := (by rw [show (((s.length : Nat) : Int) - 0).toNat = s.length by omega]; exact List.take_length); simp only [stepM, Int.reduceEq, if_true, if_false] at hF hO; unfold runE; with_unfolding_all show den spsRun _ (loopOf t_rRunOps) [_, _, _, _, _, _, _, _, _, _, _, _, _, _, _, _, _, _, _, _, _] _ = _; simp only [t_rRunOps, loopOf]
  rcases hcase with ⟨c1, c2⟩ | ⟨a, t, fa, p1, p3, p4, p5, ⟨c1, c2⟩ | ⟨b, u, fb, q1, q3, q4, q5⟩⟩
  · try simp only [c2, twoM, oneM, Option.bind_none] at hF hO
    repeat' (first | refine dq1 ?_ | refine dqc ?_ | refine dqm ?_ | refine dqk rfl (sp_rFits_at _) ?_ | refine dqK rfl (sp_rFits_at _) ?_ | refine dqT ?_ | refine dqF ?_ | refine den_t rfl ?_ | refine den_f rfl ?_ | refine dqTn ?_ | refine dqFn ?_ | refine den_let1 (dx_mgetR (d := I 2) rfl rfl rfl) ?_ | refine den_let1 (dx_mgetR (d := I 1) rfl rfl rfl) ?_ | refine den_let1 (dx_mgetR (d := I 0) rfl rfl rfl) ?_ | refine den_ck (hold_inr rfl rfl (by omega) (by simp)) ?_ | refine den_let1 (den_idx rfl rfl (by omega) rfl rfl) ?_ | refine den_let1 (den_mk rfl rfl (by simp)) ?_ | refine den_let1 (den_len rfl rfl) ?_ | refine den_let1 (den_mul rfl rfl (by omega)) ?_ | refine den_let1 (den_remY rfl rfl (by decide) (by assumption)) ?_ | exact den_ret rfl (by rw [hF (by (repeat' (first | rfl | rw [pushM_none (by first | omega | (simp only [List.length_append, List.length_cons, List.length_nil] at *; omega))] | rw [pushM_some (by first | omega | (simp only [List.length_append, List.length_cons, List.length_nil] at *; omega)) (by omega) (by omega)] | rw [if_pos (by omega)] | rw [if_neg (by omega)] | simp only [Option.bind_some, Option.bind_none])))]; rfl) | exact den_ret rfl (by rw [hF]; rfl) | exact den_again rfl rfl (hO _ (by (repeat' (first | rfl | rw [pushM_none (by first | omega | (simp only [List.length_append, List.length_cons, List.length_nil] at *; omega))] | rw [pushM_some (by first | omega | (simp only [List.length_append, List.length_cons, List.length_nil] at *; omega)) (by omega) (by omega)] | rw [if_pos (by omega)] | rw [if_neg (by omega)] | simp only [Option.bind_some, Option.bind_none])))) | (refine den_loop rfl ?_; rw [iterT]) | (refine den_again rfl rfl ?_; rw [iterT]) | refine den_sp rfl (fun h => ?_) (fun h => ?_) | refine tZn (fun h => ?_) (fun h => ?_))
  · try simp only [p1, c2, twoM, oneM, Option.bind_none, Option.bind_some] at hF hO
    obtain ⟨fa1, fa2⟩ := id fa
    repeat' (first | refine dq1 ?_ | refine dqc ?_ | refine dqm ?_ | refine dqk rfl (sp_rFits_at _) ?_ | refine dqK rfl (sp_rFits_at _) ?_ | refine dqT ?_ | refine dqF ?_ | refine den_t rfl ?_ | refine den_f rfl ?_ | refine dqTn ?_ | refine dqFn ?_ | refine den_let1 (dx_mgetR (d := I 2) rfl rfl rfl) ?_ | refine den_let1 (dx_mgetR (d := I 1) rfl rfl rfl) ?_ | refine den_let1 (dx_mgetR (d := I 0) rfl rfl rfl) ?_ | refine den_ck (hold_inr rfl rfl (by omega) (by simp)) ?_ | refine den_let1 (den_idx rfl rfl (by omega) rfl rfl) ?_ | refine den_let1 (den_mk rfl rfl (by simp)) ?_ | refine den_let1 (den_len rfl rfl) ?_ | refine den_let1 (den_mul rfl rfl (by omega)) ?_ | refine den_let1 (den_remY rfl rfl (by decide) (by assumption)) ?_ | exact den_ret rfl (by rw [hF (by (repeat' (first | rfl | rw [pushM_none (by first | omega | (simp only [List.length_append, List.length_cons, List.length_nil] at *; omega))] | rw [pushM_some (by first | omega | (simp only [List.length_append, List.length_cons, List.length_nil] at *; omega)) (by omega) (by omega)] | rw [if_pos (by omega)] | rw [if_neg (by omega)] | simp only [Option.bind_some, Option.bind_none])))]; rfl) | exact den_ret rfl (by rw [hF]; rfl) | exact den_again rfl rfl (hO _ (by (repeat' (first | rfl | rw [pushM_none (by first | omega | (simp only [List.length_append, List.length_cons, List.length_nil] at *; omega))] | rw [pushM_some (by first | omega | (simp only [List.length_append, List.length_cons, List.length_nil] at *; omega)) (by omega) (by omega)] | rw [if_pos (by omega)] | rw [if_neg (by omega)] | simp only [Option.bind_some, Option.bind_none])))) | (refine den_loop rfl ?_; rw [iterT]) | (refine den_again rfl rfl ?_; rw [iterT]) | refine den_sp rfl (fun h => ?_) (fun h => ?_) | refine tZn (fun h => ?_) (fun h => ?_))
  · try simp only [p1, q1, twoM, oneM, Option.bind_none, Option.bind_some] at hF hO
    obtain ⟨fa1, fa2⟩ := id fa
    obtain ⟨fb1, fb2⟩ := id fb
    repeat' (first | refine dq1 ?_ | refine dqc ?_ | refine dqm ?_ | refine dqk rfl (sp_rFits_at _) ?_ | refine dqK rfl (sp_rFits_at _) ?_ | refine dqT ?_ | refine dqF ?_ | refine den_t rfl ?_ | refine den_f rfl ?_ | refine dqTn ?_ | refine dqFn ?_ | refine den_let1 (dx_mgetR (d := I 2) rfl rfl rfl) ?_ | refine den_let1 (dx_mgetR (d := I 1) rfl rfl rfl) ?_ | refine den_let1 (dx_mgetR (d := I 0) rfl rfl rfl) ?_ | refine den_ck (hold_inr rfl rfl (by omega) (by simp)) ?_ | refine den_let1 (den_idx rfl rfl (by omega) rfl rfl) ?_ | refine den_let1 (den_mk rfl rfl (by simp)) ?_ | refine den_let1 (den_len rfl rfl) ?_ | refine den_let1 (den_mul rfl rfl (by omega)) ?_ | refine den_let1 (den_remY rfl rfl (by decide) (by assumption)) ?_ | exact den_ret rfl (by rw [hF (by (repeat' (first | rfl | rw [pushM_none (by first | omega | (simp only [List.length_append, List.length_cons, List.length_nil] at *; omega))] | rw [pushM_some (by first | omega | (simp only [List.length_append, List.length_cons, List.length_nil] at *; omega)) (by omega) (by omega)] | rw [if_pos (by omega)] | rw [if_neg (by omega)] | simp only [Option.bind_some, Option.bind_none])))]; rfl) | exact den_ret rfl (by rw [hF]; rfl) | exact den_again rfl rfl (hO _ (by (repeat' (first | rfl | rw [pushM_none (by first | omega | (simp only [List.length_append, List.length_cons, List.length_nil] at *; omega))] | rw [pushM_some (by first | omega | (simp only [List.length_append, List.length_cons, List.length_nil] at *; omega)) (by omega) (by omega)] | rw [if_pos (by omega)] | rw [if_neg (by omega)] | simp only [Option.bind_some, Option.bind_none])))) | (refine den_loop rfl ?_; rw [iterT]) | (refine den_again rfl rfl ?_; rw [iterT]) | refine den_sp rfl (fun h => ?_) (fun h => ?_) | refine tZn (fun h => ?_) (fun h => ?_))
theorem rstep_4 : RStep 4 := by
  intro l s0 s ht nn k R again' hl16 hsl hfit hk hx hF hO; have hcase := pop_cases hfit; have hs0t : s.take (((s.length : Nat) : Int) - 0).toNat = s := (by rw [show (((s.length : Nat) : Int) - 0).toNat = s.length by omega]; exact List.take_length); simp only [stepM, Int.reduceEq, if_true, if_false] at hF hO; unfold runE; with_unfolding_all show den spsRun _ (loopOf t_rRunOps) [_, _, _, _, _, _, _, _, _, _, _, _, _, _, _, _, _, _, _, _, _] _ = _; simp only [t_rRunOps, loopOf]
  rcases hcase with ⟨c1, c2⟩ | ⟨a, t, fa, p1, p3, p4, p5, ⟨c1, c2⟩ | ⟨b, u, fb, q1, q3, q4, q5⟩⟩
  · try simp only [c2, twoM, oneM, Option.bind_none] at hF hO
    repeat' (first | refine dq1 ?_ | refine dqc ?_ | refine dqm ?_ | refine dqk rfl (sp_rFits_at _) ?_ | refine dqK rfl (sp_rFits_at _) ?_ | refine dqT ?_ | refine dqF ?_ | refine den_t rfl ?_ | refine den_f rfl ?_ | refine dqTn ?_ | refine dqFn ?_ | refine den_let1 (dx_mgetR (d := I 2) rfl rfl rfl) ?_ | refine den_let1 (dx_mgetR (d := I 1) rfl rfl rfl) ?_ | refine den_let1 (dx_mgetR (d := I 0) rfl rfl rfl) ?_ | refine den_ck (hold_inr rfl rfl (by omega) (by simp)) ?_ | refine den_let1 (den_idx rfl rfl (by omega) rfl rfl) ?_ | refine den_let1 (den_mk rfl rfl (by simp)) ?_ | refine den_let1 (den_len rfl rfl) ?_ | refine den_let1 (den_mul rfl rfl (by omega)) ?_ | refine den_let1 (den_remY rfl rfl (by decide) (by assumption)) ?_ | exact den_ret rfl (by rw [hF (by (repeat' (first | rfl | rw [pushM_none (by first | omega | (simp only [List.length_append, List.length_cons, List.length_nil] at *; omega))] | rw [pushM_some (by first | omega | (simp only [List.length_append, List.length_cons, List.length_nil] at *; omega)) (by omega) (by omega)] | rw [if_pos (by omega)] | rw [if_neg (by omega)] | simp only [Option.bind_some, Option.bind_none])))]; rfl) | exact den_ret rfl (by rw [hF]; rfl) | exact den_again rfl rfl (hO _ (by (repeat' (first | rfl | rw [pushM_none (by first | omega | (simp only [List.length_append, List.length_cons, List.length_nil] at *; omega))] | rw [pushM_some (by first | omega | (simp only [List.length_append, List.length_cons, List.length_nil] at *; omega)) (by omega) (by omega)] | rw [if_pos (by omega)] | rw [if_neg (by omega)] | simp only [Option.bind_some, Option.bind_none])))) | (refine den_loop rfl ?_; rw [iterT]) | (refine den_again rfl rfl ?_; rw [iterT]) | refine den_sp rfl (fun h => ?_) (fun h => ?_) | refine tZn (fun h => ?_) (fun h => ?_))
  · try simp only [p1, c2, twoM, oneM, Option.bind_none, Option.bind_some] at hF hO
    obtain ⟨fa1, fa2⟩ := id fa
    repeat' (first | refine dq1 ?_ | refine dqc ?_ | refine dqm ?_ | refine dqk rfl (sp_rFits_at _) ?_ | refine dqK rfl (sp_rFits_at _) ?_ | refine dqT ?_ | refine dqF ?_ | refine den_t rfl ?_ | refine den_f rfl ?_ | refine dqTn ?_ | refine dqFn ?_ | refine den_let1 (dx_mgetR (d := I 2) rfl rfl rfl) ?_ | refine den_let1 (dx_mgetR (d := I 1) rfl rfl rfl) ?_ | refine den_let1 (dx_mgetR (d := I 0) rfl rfl rfl) ?_ | refine den_ck (hold_inr rfl rfl (by omega) (by simp)) ?_ | refine den_let1 (den_idx rfl rfl (by omega) rfl rfl) ?_ | refine den_let1 (den_mk rfl rfl (by simp)) ?_ | refine den_let1 (den_len rfl rfl) ?_ | refine den_let1 (den_mul rfl rfl (by omega)) ?_ | refine den_let1 (den_remY rfl rfl (by decide) (by assumption)) ?_ | exact den_ret rfl (by rw [hF (by (repeat' (first | rfl | rw [pushM_none (by first | omega | (simp only [List.length_append, List.length_cons, List.length_nil] at *; omega))] | rw [pushM_some (by first | omega | (simp only [List.length_append, List.length_cons, List.length_nil] at *; omega)) (by omega) (by omega)] | rw [if_pos (by omega)] | rw [if_neg (by omega)] | simp only [Option.bind_some, Option.bind_none])))]; rfl) | exact den_ret rfl (by rw [hF]; rfl) | exact den_again rfl rfl (hO _ (by (repeat' (first | rfl | rw [pushM_none (by first | omega | (simp only [List.length_append, List.length_cons, List.length_nil] at *; omega))] | rw [pushM_some (by first | omega | (simp only [List.length_append, List.length_cons, List.length_nil] at *; omega)) (by omega) (by omega)] | rw [if_pos (by omega)] | rw [if_neg (by omega)] | simp only [Option.bind_some, Option.bind_none])))) | (refine den_loop rfl ?_; rw [iterT]) | (refine den_again rfl rfl ?_; rw [iterT]) | refine den_sp rfl (fun h => ?_) (fun h => ?_) | refine tZn (fun h => ?_) (fun h => ?_))
  · try simp only [p1, q1, twoM, oneM, Option.bind_none, Option.bind_some] at hF hO
    obtain ⟨fa1, fa2⟩ := id fa
    obtain ⟨fb1, fb2⟩ := id fb
    repeat' (first | refine dq1 ?_ | refine dqc ?_ | refine dqm ?_ | refine dqk rfl (sp_rFits_at _) ?_ | refine dqK rfl (sp_rFits_at _) ?_ | refine dqT ?_ | refine dqF ?_ | refine den_t rfl ?_ | refine den_f rfl ?_ | refine dqTn ?_ | refine dqFn ?_ | refine den_let1 (dx_mgetR (d := I 2) rfl rfl rfl) ?_ | refine den_let1 (dx_mgetR (d := I 1) rfl rfl rfl) ?_ | refine den_let1 (dx_mgetR (d := I 0) rfl rfl rfl) ?_ | refine den_ck (hold_inr rfl rfl (by omega) (by simp)) ?_ | refine den_let1 (den_idx rfl rfl (by omega) rfl rfl) ?_ | refine den_let1 (den_mk rfl rfl (by simp)) ?_ | refine den_let1 (den_len rfl rfl) ?_ | refine den_let1 (den_mul rfl rfl (by omega)) ?_ | refine den_let1 (den_remY rfl rfl (by decide) (by assumption)) ?_ | exact den_ret rfl (by rw [hF (by (repeat' (first | rfl | rw [pushM_none (by first | omega | (simp only [List.length_append, List.length_cons, List.length_nil] at *; omega))] | rw [pushM_some (by first | omega | (simp only [List.length_append, List.length_cons, List.length_nil] at *; omega)) (by omega) (by omega)] | rw [if_pos (by omega)] | rw [if_neg (by omega)] | simp only [Option.bind_some, Option.bind_none])))]; rfl) | exact den_ret rfl (by rw [hF]; rfl) | exact den_again rfl rfl (hO _ (by (repeat' (first | rfl | rw [pushM_none (by first | omega | (simp only [List.length_append, List.length_cons, List.length_nil] at *; omega))] | rw [pushM_some (by first | omega | (simp only [List.length_append, List.length_cons, List.length_nil] at *; omega)) (by omega) (by omega)] | rw [if_pos (by omega)] | rw [if_neg (by omega)] | simp only [Option.bind_some, Option.bind_none])))) | (refine den_loop rfl ?_; rw [iterT]) | (refine den_again rfl rfl ?_; rw [iterT]) | refine den_sp rfl (fun h => ?_) (fun h => ?_) | refine tZn (fun h => ?_) (fun h => ?_))
end Go.Proofs.YtajaacgchhmbjaaDoor
namespace Go.Proofs.YtajaacgchhmbjaaDoor
open Go.RowKit
set_option linter.unusedVariables false
set_option linter.unusedSimpArgs false
set_option maxRecDepth 100000
set_option maxHeartbeats 8000000
attribute [local irreducible] specOf spD ordP mixI bitI sp_rFits
attribute [local irreducible] den denX denXs holdXs
theorem rstep_5 : RStep 5 := by
  intro l s0 s ht nn k R again' hl16 hsl hfit hk hx hF hO; have hcase := pop_cases hfit; have hs0t : s.take (((s.length : Nat) : Int) - 0).toNat = s := (by rw [show (((s.length : Nat) : Int) - 0).toNat = s.length by omega]; exact List.take_length); simp only [stepM, Int.reduceEq, if_true, if_false] at hF hO; unfold runE; with_unfolding_all show den spsRun _ (loopOf t_rRunOps) [_, _, _, _, _, _, _, _, _, _, _, _, _, _, _, _, _, _, _, _, _] _ = _; simp only [t_rRunOps, loopOf]
  rcases hcase with ⟨c1, c2⟩ | ⟨a, t, fa, p1, p3, p4, p5, ⟨c1, c2⟩ | ⟨b, u, fb, q1, q3, q4, q5⟩⟩
  · try simp only [c2, twoM, oneM, Option.bind_none] at hF hO
    repeat' (first | refine dq1 ?_ | refine dqc ?_ | refine dqm ?_ | refine dqk rfl (sp_rFits_at _) ?_ | refine dqK rfl (sp_rFits_at _) ?_ | refine dqT ?_ | refine dqF ?_ | refine den_t rfl ?_ | refine den_f rfl ?_ | refine dqTn ?_ | refine dqFn ?_ | refine den_let1 (dx_mgetR (d := I 2) rfl rfl rfl) ?_ | refine den_let1 (dx_mgetR (d := I 1) rfl rfl rfl) ?_ | refine den_let1 (dx_mgetR (d := I 0) rfl rfl rfl) ?_ | refine den_ck (hold_inr rfl rfl (by omega) (by simp)) ?_ | refine den_let1 (den_idx rfl rfl (by omega) rfl rfl) ?_ | refine den_let1 (den_mk rfl rfl (by simp)) ?_ | refine den_let1 (den_len rfl rfl) ?_ | refine den_let1 (den_mul rfl rfl (by omega)) ?_ | refine den_let1 (den_remY rfl rfl (by decide) (by assumption)) ?_ | exact den_ret rfl (by rw [hF (by (repeat' (first | rfl | rw [pushM_none (by first | omega | (simp only [List.length_append, List.length_cons, List.length_nil] at *; omega))] | rw [pushM_some (by first | omega | (simp only [List.length_append, List.length_cons, List.length_nil] at *; omega)) (by omega) (by omega)] | rw [if_pos (by omega)] | rw [if_neg (by omega)] | simp only [Option.bind_some, Option.bind_none])))]; rfl) | exact den_ret rfl (by rw [hF]; rfl) | exact den_again rfl rfl (hO _ (by (repeat' (first | rfl | rw [pushM_none (by first | omega | (simp only [List.length_append, List.length_cons, List.length_nil] at *; omega))] | rw [pushM_some (by first | omega | (simp only [List.length_append, List.length_cons, List.length_nil] at *; omega)) (by omega) (by omega)] | rw [if_pos (by omega)] | rw [if_neg (by omega)] | simp only [Option.bind_some, Option.bind_none])))) | (refine den_loop rfl ?_; rw [iterT]) | (refine den_again rfl rfl ?_; rw [iterT]) | refine den_sp rfl (fun h => ?_) (fun h => ?_) | refine tZn (fun h => ?_) (fun h => ?_))
  · try simp only [p1, c2, twoM, oneM, Option.bind_none, Option.bind_some] at hF hO
    obtain ⟨fa1, fa2⟩ := id fa
    repeat' (first | refine dq1 ?_ | refine dqc ?_ | refine dqm ?_ | refine dqk rfl (sp_rFits_at _) ?_ | refine dqK rfl (sp_rFits_at _) ?_ | refine dqT ?_ | refine dqF ?_ | refine den_t rfl ?_ | refine den_f rfl ?_ | refine dqTn ?_ | refine dqFn ?_ | refine den_let1 (dx_mgetR (d := I 2) rfl rfl rfl) ?_ | refine den_let1 (dx_mgetR (d := I 1) rfl rfl rfl) ?_ | refine den_let1 (dx_mgetR (d := I 0) rfl rfl rfl) ?_ | refine den_ck (hold_inr rfl rfl (by omega) (by simp)) ?_ | refine den_let1 (den_idx rfl rfl (by omega) rfl rfl) ?_ | refine den_let1 (den_mk rfl rfl (by simp)) ?_ | refine den_let1 (den_len rfl rfl) ?_ | refine den_let1 (den_mul rfl rfl (by omega)) ?_ | refine den_let1 (den_remY rfl rfl (by decide) (by assumption)) ?_ | exact den_ret rfl (by rw [hF (by (repeat' (first | rfl | rw [pushM_none (by first | omega | (simp only [List.length_append, List.length_cons, List.length_nil] at *; omega))] | rw [pushM_some (by first | omega | (simp only [List.length_append, List.length_cons, List.length_nil] at *; omega)) (by omega) (by omega)] | rw [if_pos (by omega)] | rw [if_neg (by omega)] | simp only [Option.bind_some, Option.bind_none])))]; rfl) | exact den_ret rfl (by rw [hF]; rfl) | exact den_again rfl rfl (hO _ (by (repeat' (first | rfl | rw [pushM_none (by first | omega | (simp only [List.length_append, List.length_cons, List.length_nil] at *; omega))] | rw [pushM_some (by first | omega | (simp only [List.length_append, List.length_cons, List.length_nil] at *; omega)) (by omega) (by omega)] | rw [if_pos (by omega)] | rw [if_neg (by omega)] | simp only [Option.bind_some, Option.bind_none])))) | (refine den_loop rfl ?_; rw [iterT]) | (refine den_again rfl rfl ?_; rw [iterT]) | refine den_sp rfl (fun h => ?_) (fun h => ?_) | refine tZn (fun h => ?_) (fun h => ?_))
  · try simp only [p1, q1, twoM, oneM, Option.bind_none, Option.bind_some] at hF hO
    obtain ⟨fa1, fa2⟩ := id fa
    obtain ⟨fb1, fb2⟩ := id fb
    repeat' (first | refine dq1 ?_ | refine dqc ?_ | refine dqm ?_ | refine dqk rfl (sp_rFits_at _) ?_ | refine dqK rfl (sp_rFits_at _) ?_ | refine dqT ?_ | refine dqF ?_ | refine den_t rfl ?_ | refine den_f rfl ?_ | refine dqTn ?_ | refine dqFn ?_ | refine den_let1 (dx_mgetR (d := I 2) rfl rfl rfl) ?_ | refine den_let1 (dx_mgetR (d := I 1) rfl rfl rfl) ?_ | refine den_let1 (dx_mgetR (d := I 0) rfl rfl rfl) ?_ | refine den_ck (hold_inr rfl rfl (by omega) (by simp)) ?_ | refine den_let1 (den_idx rfl rfl (by omega) rfl rfl) ?_ | refine den_let1 (den_mk rfl rfl (by simp)) ?_ | refine den_let1 (den_len rfl rfl) ?_ | refine den_let1 (den_mul rfl rfl (by omega)) ?_ | refine den_let1 (den_remY rfl rfl (by decide) (by assumption)) ?_ | exact den_ret rfl (by rw [hF (by (repeat' (first | rfl | rw [pushM_none (by first | omega | (simp only [List.length_append, List.length_cons, List.length_nil] at *; omega))] | rw [pushM_some (by first | omega | (simp only [List.length_append, List.length_cons, List.length_nil] at *; omega)) (by omega) (by omega)] | rw [if_pos (by omega)] | rw [if_neg (by omega)] | simp only [Option.bind_some, Option.bind_none])))]; rfl) | exact den_ret rfl (by rw [hF]; rfl) | exact den_again rfl rfl (hO _ (by (repeat' (first | rfl | rw [pushM_none (by first | omega | (simp only [List.length_append, List.length_cons, List.length_nil] at *; omega))] | rw [pushM_some (by first | omega | (simp only [List.length_append, List.length_cons, List.length_nil] at *; omega)) (by omega) (by omega)] | rw [if_pos (by omega)] | rw [if_neg (by omega)] | simp only [Option.bind_some, Option.bind_none])))) | (refine den_loop rfl ?_; rw [iterT]) | (refine den_again rfl rfl ?_; rw [iterT]) | refine den_sp rfl (fun h => ?_) (fun h => ?_) | refine tZn (fun h => ?_) (fun h => ?_))
theorem rstep_6 : RStep 6 := by
  intro l s0 s ht nn k R again' hl16 hsl hfit hk hx hF hO; have hcase := pop_cases hfit; have hs0t : s.take (((s.length : Nat) : Int) - 0).toNat = s := (by rw [show (((s.length : Nat) : Int) - 0).toNat = s.length by omega]; exact List.take_length); simp only [stepM, Int.reduceEq, if_true, if_false] at hF hO; unfold runE; with_unfolding_all show den spsRun _ (loopOf t_rRunOps) [_, _, _, _, _, _, _, _, _, _, _, _, _, _, _, _, _, _, _, _, _] _ = _; simp only [t_rRunOps, loopOf]
  rcases hcase with ⟨c1, c2⟩ | ⟨a, t, fa, p1, p3, p4, p5, ⟨c1, c2⟩ | ⟨b, u, fb, q1, q3, q4, q5⟩⟩
  · try simp only [c2, twoM, oneM, Option.bind_none] at hF hO
    repeat' (first | refine dq1 ?_ | refine dqc ?_ | refine dqm ?_ | refine dqk rfl (sp_rFits_at _) ?_ | refine dqK rfl (sp_rFits_at _) ?_ | refine dqT ?_ | refine dqF ?_ | refine den_t rfl ?_ | refine den_f rfl ?_ | refine dqTn ?_ | refine dqFn ?_ | refine den_let1 (dx_mgetR (d := I 2) rfl rfl rfl) ?_ | refine den_let1 (dx_mgetR (d := I 1) rfl rfl rfl) ?_ | refine den_let1 (dx_mgetR (d := I 0) rfl rfl rfl) ?_ | refine den_ck (hold_inr rfl rfl (by omega) (by simp)) ?_ | refine den_let1 (den_idx rfl rfl (by omega) rfl rfl) ?_ | refine den_let1 (den_mk rfl rfl (by simp)) ?_ | refine den_let1 (den_len rfl rfl) ?_ | refine den_let1 (den_mul rfl rfl (by omega)) ?_ | refine den_let1 (den_remY rfl rfl (by decide) (by assumption)) ?_ | exact den_ret rfl (by rw [hF (by (repeat' (first | rfl | rw [pushM_none (by first | omega | (simp only [List.length_append, List.length_cons, List.length_nil] at *; omega))] | rw [pushM_some (by first | omega | (simp only [List.length_append, List.length_cons, List.length_nil] at *; omega)) (by omega) (by omega)] | rw [if_pos (by omega)] | rw [if_neg (by omega)] | simp only [Option.bind_some, Option.bind_none])))]; rfl) | exact den_ret rfl (by rw [hF]; rfl) | exact den_again rfl rfl (hO _ (by (repeat' (first | rfl | rw [pushM_none (by first | omega | (simp only [List.length_append, List.length_cons, List.length_nil] at *; omega))] | rw [pushM_some (by first | omega | (simp only [List.length_append, List.length_cons, List.length_nil] at *; omega)) (by omega) (by omega)] | rw [if_pos (by omega)] | rw [if_neg (by omega)] | simp only [Option.bind_some, Option.bind_none])))) | (refine den_loop rfl ?_; rw [iterT]) | (refine den_again rfl rfl ?_; rw [iterT]) | refine den_sp rfl (fun h => ?_) (fun h => ?_) | refine tZn (fun h => ?_) (fun h => ?_))
  · try simp only [p1, c2, twoM, oneM, Option.bind_none, Option.bind_some] at hF hO
    obtain ⟨fa1, fa2⟩ := id fa
    repeat' (first | refine dq1 ?_ | refine dqc ?_ | refine dqm ?_ | refine dqk rfl (sp_rFits_at _) ?_ | refine dqK rfl (sp_rFits_at _) ?_ | refine dqT ?_ | refine dqF ?_ | refine den_t rfl ?_ | refine den_f rfl ?_ | refine dqTn ?_ | refine dqFn ?_ | refine den_let1 (dx_mgetR (d := I 2) rfl rfl rfl) ?_ | refine den_let1 (dx_mgetR (d := I 1) rfl rfl rfl) ?_ | refine den_let1 (dx_mgetR (d := I 0) rfl rfl rfl) ?_ | refine den_ck (hold_inr rfl rfl (by omega) (by simp)) ?_ | refine den_let1 (den_idx rfl rfl (by omega) rfl rfl) ?_ | refine den_let1 (den_mk rfl rfl (by simp)) ?_ | refine den_let1 (den_len rfl rfl) ?_ | refine den_let1 (den_mul rfl rfl (by omega)) ?_ | refine den_let1 (den_remY rfl rfl (by decide) (by assumption)) ?_ | exact den_ret rfl (by rw [hF (by (repeat' (first | rfl | rw [pushM_none (by first | omega | (simp only [List.length_append, List.length_cons, List.length_nil] at *; omega))] | rw [pushM_some (by first | omega | (simp only [List.length_append, List.length_cons, List.length_nil] at *; omega)) (by omega) (by omega)] | rw [if_pos (by omega)] | rw [if_neg (by omega)] | simp only [Option.bind_some, Option.bind_none])))]; rfl) | exact den_ret rfl (by rw [hF]; rfl) | exact den_again rfl rfl (hO _ (by (repeat' (first | rfl | rw [pushM_none (by first | omega | (simp only [List.length_append, List.length_cons, List.length_nil] at *; omega))] | rw [pushM_some (by first | omega | (simp only [List.length_append, List.length_cons, List.length_nil] at *; omega)) (by omega) (by omega)] | rw [if_pos (by omega)] | rw [if_neg (by omega)] | simp only [Option.bind_some, Option.bind_none])))) | (refine den_loop rfl ?_; rw [iterT]) | (refine den_again rfl rfl ?_; rw [iterT]) | refine den_sp rfl (fun h => ?_) (fun h => ?_) | refine tZn (fun h => ?_) (fun h => ?_))
  · try simp only [p1, q1, twoM, oneM, Option.bind_none, Option.bind_some] at hF hO
    obtain ⟨fa1, fa2⟩ := id fa
    obtain ⟨fb1, fb2⟩ := id fb
    repeat' (first | refine dq1 ?_ | refine dqc ?_ | refine dqm ?_ | refine dqk rfl (sp_rFits_at _) ?_ | refine dqK rfl (sp_rFits_at _) ?_ | refine dqT ?_ | refine dqF ?_ | refine den_t rfl ?_ | refine den_f rfl ?_ | refine dqTn ?_ | refine dqFn ?_ | refine den_let1 (dx_mgetR (d := I 2) rfl rfl rfl) ?_ | refine den_let1 (dx_mgetR (d := I 1) rfl rfl rfl) ?_ | refine den_let1 (dx_mgetR (d := I 0) rfl rfl rfl) ?_ | refine den_ck (hold_inr rfl rfl (by omega) (by simp)) ?_ | refine den_let1 (den_idx rfl rfl (by omega) rfl rfl) ?_ | refine den_let1 (den_mk rfl rfl (by simp)) ?_ | refine den_let1 (den_len rfl rfl) ?_ | refine den_let1 (den_mul rfl rfl (by omega)) ?_ | refine den_let1 (den_remY rfl rfl (by decide) (by assumption)) ?_ | exact den_ret rfl (by rw [hF (by (repeat' (first | rfl | rw [pushM_none (by first | omega | (simp only [List.length_append, List.length_cons, List.length_nil] at *; omega))] | rw [pushM_some (by first | omega | (simp only [List.length_append, List.length_cons, List.length_nil] at *; omega)) (by omega) (by omega)] | rw [if_pos (by omega)] | rw [if_neg (by omega)] | simp only [Option.bind_some, Option.bind_none])))]; rfl) | exact den_ret rfl (by rw [hF]; rfl) | exact den_again rfl rfl (hO _ (by (repeat' (first | rfl | rw [pushM_none (by first | omega | (simp only [List.length_append, List.length_cons, List.length_nil] at *; omega))] | rw [pushM_some (by first | omega | (simp only [List.length_append, List.length_cons, List.length_nil] at *; omega)) (by omega) (by omega)] | rw [if_pos (by omega)] | rw [if_neg (by omega)] | simp only [Option.bind_some, Option.bind_none])))) | (refine den_loop rfl ?_; rw [iterT]) | (refine den_again rfl rfl ?_; rw [iterT]) | refine den_sp rfl (fun h => ?_) (fun h => ?_) | refine tZn (fun h => ?_) (fun h => ?_))
theorem rstep_7 : RStep 7 := by
  intro l s0 s ht nn k R again' hl16 hsl hfit hk hx hF hO; have hcase := pop_cases hfit; have hs0t : s.take (((s.length : Nat) : Int) - 0).toNat = s := (by rw [show (((s.length : Nat) : Int) - 0).toNat = s.length by omega]; exact List.take_length); simp only [stepM, Int.reduceEq, if_true, if_false] at hF hO; unfold runE; with_unfolding_all show den spsRun _ (loopOf t_rRunOps) [_, _, _, _, _, _, _, _, _, _, _, _, _, _, _, _, _, _, _, _, _] _ = _; simp only [t_rRunOps, loopOf]
  rcases hcase with ⟨c1, c2⟩ | ⟨a, t, fa, p1, p3, p4, p5, ⟨c1, c2⟩ | ⟨b, u, fb, q1, q3, q4, q5⟩⟩
  · try simp only [c2, twoM, oneM, Option.bind_none] at hF hO
    repeat' (first | refine dq1 ?_ | refine dqc ?_ | refine dqm ?_ | refine dqk rfl (sp_rFits_at _) ?_ | refine dqK rfl (sp_rFits_at _) ?_ | refine dqT ?_ | refine dqF ?_ | refine den_t rfl ?_ | refine den_f rfl ?_ | refine dqTn ?_ | refine dqFn ?_ | refine den_let1 (dx_mgetR (d := I 2) rfl rfl rfl) ?_ | refine den_let1 (dx_mgetR (d := I 1) rfl rfl rfl) ?_ | refine den_let1 (dx_mgetR (d := I 0) rfl rfl rfl) ?_ | refine den_ck (hold_inr rfl rfl (by omega) (by simp)) ?_ | refine den_let1 (den_idx rfl rfl (by omega) rfl rfl) ?_ | refine den_let1 (den_mk rfl rfl (by simp)) ?_ | refine den_let1 (den_len rfl rfl) ?_ | refine den_let1 (den_mul rfl rfl (by omega)) ?_ | refine den_let1 (den_remY rfl rfl (by decide) (by assumption)) ?_ | exact den_ret rfl (by rw [hF (by (repeat' (first | rfl | rw [pushM_none (by first | omega | (simp only [List.length_append, List.length_cons, List.length_nil] at *; omega))] | rw [pushM_some (by first | omega | (simp only [List.length_append, List.length_cons, List.length_nil] at *; omega)) (by omega) (by omega)] | rw [if_pos (by omega)] | rw [if_neg (by omega)] | simp only [Option.bind_some, Option.bind_none])))]; rfl) | exact den_ret rfl (by rw [hF]; rfl) | exact den_again rfl rfl (hO _ (by (repeat' (first | rfl | rw [pushM_none (by first | omega | (simp only [List.length_append, List.length_cons, List.length_nil] at *; omega))] | rw [pushM_some (by first | omega | (simp only [List.length_append, List.length_cons, List.length_nil] at *; omega)) (by omega) (by omega)] | rw [if_pos (by omega)] | rw [if_neg (by omega)] | simp only [Option.bind_some, Option.bind_none])))) | (refine den_loop rfl ?_; rw [iterT]) | (refine den_again rfl rfl ?_; rw [iterT]) | refine den_sp rfl (fun h => ?_) (fun h => ?_) | refine tZn (fun h => ?_) (fun h => ?_))
  · try simp only [p1, c2, twoM, oneM, Option.bind_none, Option.bind_some] at hF hO
    obtain ⟨fa1, fa2⟩ := id fa
    repeat' (first | refine dq1 ?_ | refine dqc ?_ | refine dqm ?_ | refine dqk rfl (sp_rFits_at _) ?_ | refine dqK rfl (sp_rFits_at _) ?_ | refine dqT ?_ | refine dqF ?_ | refine den_t rfl ?_ | refine den_f rfl ?_ | refine dqTn ?_ | refine dqFn ?_ | refine den_let1 (dx_mgetR (d := I 2) rfl rfl rfl) ?_ | refine den_let1 (dx_mgetR (d := I 1) rfl rfl rfl) ?_ | refine den_let1 (dx_mgetR (d := I 0) rfl rfl rfl) ?_ | refine den_ck (hold_inr rfl rfl (by omega) (by simp)) ?_ | refine den_let1 (den_idx rfl rfl (by omega) rfl rfl) ?_ | refine den_let1 (den_mk rfl rfl (by simp)) ?_ | refine den_let1 (den_len rfl rfl) ?_ | refine den_let1 (den_mul rfl rfl (by omega)) ?_ | refine den_let1 (den_remY rfl rfl (by decide) (by assumption)) ?_ | exact den_ret rfl (by rw [hF (by (repeat' (first | rfl | rw [pushM_none (by first | omega | (simp only [List.length_append, List.length_cons, List.length_nil] at *; omega))] | rw [pushM_some (by first | omega | (simp only [List.length_append, List.length_cons, List.length_nil] at *; omega)) (by omega) (by omega)] | rw [if_pos (by omega)] | rw [if_neg (by omega)] | simp only [Option.bind_some, Option.bind_none])))]; rfl) | exact den_ret rfl (by rw [hF]; rfl) | exact den_again rfl rfl (hO _ (by (repeat' (first | rfl | rw [pushM_none (by first | omega | (simp only [List.length_append, List.length_cons, List.length_nil] at *; omega))] | rw [pushM_some (by first | omega | (simp only [List.length_append, List.length_cons, List.length_nil] at *; omega)) (by omega) (by omega)] | rw [if_pos (by omega)] | rw [if_neg (by omega)] | simp only [Option.bind_some, Option.bind_none])))) | (refine den_loop rfl ?_; rw [iterT]) | (refine den_again rfl rfl ?_; rw [iterT]) | refine den_sp rfl (fun h => ?_) (fun h => ?_) | refine tZn (fun h => ?_) (fun h => ?_))
  · try simp only [p1, q1, twoM, oneM, Option.bind_none, Option.bind_some] at hF hO
    obtain ⟨fa1, fa2⟩ := id fa
    obtain ⟨fb1, fb2⟩ := id fb
    by_cases hab : b = a
    · have e7 : bitI (decide (b = a)) = 1 := by with_unfolding_all simp [bitI, hab]
      rw [e7] at hF hO
      repeat' (first | refine dq1 ?_ | refine dqc ?_ | refine dqm ?_ | refine dqk rfl (sp_rFits_at _) ?_ | refine dqK rfl (sp_rFits_at _) ?_ | refine dqT ?_ | refine dqF ?_ | refine den_t rfl ?_ | refine den_f rfl ?_ | refine dqTn ?_ | refine dqFn ?_ | refine den_let1 (dx_mgetR (d := I 2) rfl rfl rfl) ?_ | refine den_let1 (dx_mgetR (d := I 1) rfl rfl rfl) ?_ | refine den_let1 (dx_mgetR (d := I 0) rfl rfl rfl) ?_ | refine den_ck (hold_inr rfl rfl (by omega) (by simp)) ?_ | refine den_let1 (den_idx rfl rfl (by omega) rfl rfl) ?_ | refine den_let1 (den_mk rfl rfl (by simp)) ?_ | refine den_let1 (den_len rfl rfl) ?_ | refine den_let1 (den_mul rfl rfl (by omega)) ?_ | refine den_let1 (den_remY rfl rfl (by decide) (by assumption)) ?_ | exact den_ret rfl (by rw [hF (by (repeat' (first | rfl | rw [pushM_none (by first | omega | (simp only [List.length_append, List.length_cons, List.length_nil] at *; omega))] | rw [pushM_some (by first | omega | (simp only [List.length_append, List.length_cons, List.length_nil] at *; omega)) (by omega) (by omega)] | rw [if_pos (by omega)] | rw [if_neg (by omega)] | simp only [Option.bind_some, Option.bind_none])))]; rfl) | exact den_ret rfl (by rw [hF]; rfl) | exact den_again rfl rfl (hO _ (by (repeat' (first | rfl | rw [pushM_none (by first | omega | (simp only [List.length_append, List.length_cons, List.length_nil] at *; omega))] | rw [pushM_some (by first | omega | (simp only [List.length_append, List.length_cons, List.length_nil] at *; omega)) (by omega) (by omega)] | rw [if_pos (by omega)] | rw [if_neg (by omega)] | simp only [Option.bind_some, Option.bind_none])))) | (refine den_loop rfl ?_; rw [iterT]) | (refine den_again rfl rfl ?_; rw [iterT]) | refine den_sp rfl (fun h => ?_) (fun h => ?_) | refine tZn (fun h => ?_) (fun h => ?_))
    · have e7 : bitI (decide (b = a)) = 0 := by with_unfolding_all simp [bitI, hab]
      rw [e7] at hF hO
      repeat' (first | refine dq1 ?_ | refine dqc ?_ | refine dqm ?_ | refine dqk rfl (sp_rFits_at _) ?_ | refine dqK rfl (sp_rFits_at _) ?_ | refine dqT ?_ | refine dqF ?_ | refine den_t rfl ?_ | refine den_f rfl ?_ | refine dqTn ?_ | refine dqFn ?_ | refine den_let1 (dx_mgetR (d := I 2) rfl rfl rfl) ?_ | refine den_let1 (dx_mgetR (d := I 1) rfl rfl rfl) ?_ | refine den_let1 (dx_mgetR (d := I 0) rfl rfl rfl) ?_ | refine den_ck (hold_inr rfl rfl (by omega) (by simp)) ?_ | refine den_let1 (den_idx rfl rfl (by omega) rfl rfl) ?_ | refine den_let1 (den_mk rfl rfl (by simp)) ?_ | refine den_let1 (den_len rfl rfl) ?_ | refine den_let1 (den_mul rfl rfl (by omega)) ?_ | refine den_let1 (den_remY rfl rfl (by decide) (by assumption)) ?_ | exact den_ret rfl (by rw [hF (by (repeat' (first | rfl | rw [pushM_none (by first | omega | (simp only [List.length_append, List.length_cons, List.length_nil] at *; omega))] | rw [pushM_some (by first | omega | (simp only [List.length_append, List.length_cons, List.length_nil] at *; omega)) (by omega) (by omega)] | rw [if_pos (by omega)] | rw [if_neg (by omega)] | simp only [Option.bind_some, Option.bind_none])))]; rfl) | exact den_ret rfl (by rw [hF]; rfl) | exact den_again rfl rfl (hO _ (by (repeat' (first | rfl | rw [pushM_none (by first | omega | (simp only [List.length_append, List.length_cons, List.length_nil] at *; omega))] | rw [pushM_some (by first | omega | (simp only [List.length_append, List.length_cons, List.length_nil] at *; omega)) (by omega) (by omega)] | rw [if_pos (by omega)] | rw [if_neg (by omega)] | simp only [Option.bind_some, Option.bind_none])))) | (refine den_loop rfl ?_; rw [iterT]) | (refine den_again rfl rfl ?_; rw [iterT]) | refine den_sp rfl (fun h => ?_) (fun h => ?_) | refine tZn (fun h => ?_) (fun h => ?_))
theorem rstep_8 : RStep 8 := by
  intro l s0 s ht nn k R again' hl16 hsl hfit hk hx hF hO; have hcase := pop_cases hfit; have hs0t : s.take (((s.length : Nat) : Int) - 0).toNat = s := (by rw [show (((s.length : Nat) : Int) - 0).toNat = s.length by omega]; exact List.take_length); simp only [stepM, Int.reduceEq, if_true, if_false] at hF hO; unfold runE; with_unfolding_all show den spsRun _ (loopOf t_rRunOps) [_, _, _, _, _, _, _, _, _, _, _, _, _, _, _, _, _, _, _, _, _] _ = _; simp only [t_rRunOps, loopOf]
  rcases hcase with ⟨c1, c2⟩ | ⟨a, t, fa, p1, p3, p4, p5, ⟨c1, c2⟩ | ⟨b, u, fb, q1, q3, q4, q5⟩⟩
  · try simp only [c2, twoM, oneM, Option.bind_none] at hF hO
    repeat' (first | refine dq1 ?_ | refine dqc ?_ | refine dqm ?_ | refine dqk rfl (sp_rFits_at _) ?_ | refine dqK rfl (sp_rFits_at _) ?_ | refine dqT ?_ | refine dqF ?_ | refine den_t rfl ?_ | refine den_f rfl ?_ | refine dqTn ?_ | refine dqFn ?_ | refine den_let1 (dx_mgetR (d := I 2) rfl rfl rfl) ?_ | refine den_let1 (dx_mgetR (d := I 1) rfl rfl rfl) ?_ | refine den_let1 (dx_mgetR (d := I 0) rfl rfl rfl) ?_ | refine den_ck (hold_inr rfl rfl (by omega) (by simp)) ?_ | refine den_let1 (den_idx rfl rfl (by omega) rfl rfl) ?_ | refine den_let1 (den_mk rfl rfl (by simp)) ?_ | refine den_let1 (den_len rfl rfl) ?_ | refine den_let1 (den_mul rfl rfl (by omega)) ?_ | refine den_let1 (den_remY rfl rfl (by decide) (by assumption)) ?_ | exact den_ret rfl (by rw [hF (by (repeat' (first | rfl | rw [pushM_none (by first | omega | (simp only [List.length_append, List.length_cons, List.length_nil] at *; omega))] | rw [pushM_some (by first | omega | (simp only [List.length_append, List.length_cons, List.length_nil] at *; omega)) (by omega) (by omega)] | rw [if_pos (by omega)] | rw [if_neg (by omega)] | simp only [Option.bind_some, Option.bind_none])))]; rfl) | exact den_ret rfl (by rw [hF]; rfl) | exact den_again rfl rfl (hO _ (by (repeat' (first | rfl | rw [pushM_none (by first | omega | (simp only [List.length_append, List.length_cons, List.length_nil] at *; omega))] | rw [pushM_some (by first | omega | (simp only [List.length_append, List.length_cons, List.length_nil] at *; omega)) (by omega) (by omega)] | rw [if_pos (by omega)] | rw [if_neg (by omega)] | simp only [Option.bind_some, Option.bind_none])))) | (refine den_loop rfl ?_; rw [iterT]) | (refine den_again rfl rfl ?_; rw [iterT]) | refine den_sp rfl (fun h => ?_) (fun h => ?_) | refine tZn (fun h => ?_) (fun h => ?_))
  · try simp only [p1, c2, twoM, oneM, Option.bind_none, Option.bind_some] at hF hO
    obtain ⟨fa1, fa2⟩ := id fa
    repeat' (first | refine dq1 ?_ | refine dqc ?_ | refine dqm ?_ | refine dqk rfl (sp_rFits_at _) ?_ | refine dqK rfl (sp_rFits_at _) ?_ | refine dqT ?_ | refine dqF ?_ | refine den_t rfl ?_ | refine den_f rfl ?_ | refine dqTn ?_ | refine dqFn ?_ | refine den_let1 (dx_mgetR (d := I 2) rfl rfl rfl) ?_ | refine den_let1 (dx_mgetR (d := I 1) rfl rfl rfl) ?_ | refine den_let1 (dx_mgetR (d := I 0) rfl rfl rfl) ?_ | refine den_ck (hold_inr rfl rfl (by omega) (by simp)) ?_ | refine den_let1 (den_idx rfl rfl (by omega) rfl rfl) ?_ | refine den_let1 (den_mk rfl rfl (by simp)) ?_ | refine den_let1 (den_len rfl rfl) ?_ | refine den_let1 (den_mul rfl rfl (by omega)) ?_ | refine den_let1 (den_remY rfl rfl (by decide) (by assumption)) ?_ | exact den_ret rfl (by rw [hF (by (repeat' (first | rfl | rw [pushM_none (by first | omega | (simp only [List.length_append, List.length_cons, List.length_nil] at *; omega))] | rw [pushM_some (by first | omega | (simp only [List.length_append, List.length_cons, List.length_nil] at *; omega)) (by omega) (by omega)] | rw [if_pos (by omega)] | rw [if_neg (by omega)] | simp only [Option.bind_some, Option.bind_none])))]; rfl) | exact den_ret rfl (by rw [hF]; rfl) | exact den_again rfl rfl (hO _ (by (repeat' (first | rfl | rw [pushM_none (by first | omega | (simp only [List.length_append, List.length_cons, List.length_nil] at *; omega))] | rw [pushM_some (by first | omega | (simp only [List.length_append, List.length_cons, List.length_nil] at *; omega)) (by omega) (by omega)] | rw [if_pos (by omega)] | rw [if_neg (by omega)] | simp only [Option.bind_some, Option.bind_none])))) | (refine den_loop rfl ?_; rw [iterT]) | (refine den_again rfl rfl ?_; rw [iterT]) | refine den_sp rfl (fun h => ?_) (fun h => ?_) | refine tZn (fun h => ?_) (fun h => ?_))
  · try simp only [p1, q1, twoM, oneM, Option.bind_none, Option.bind_some] at hF hO
    obtain ⟨fa1, fa2⟩ := id fa
    obtain ⟨fb1, fb2⟩ := id fb
    by_cases hab : b < a
    · have e7 : bitI (decide (b < a)) = 1 := by with_unfolding_all simp [bitI, hab]
      rw [e7] at hF hO
      repeat' (first | refine dq1 ?_ | refine dqc ?_ | refine dqm ?_ | refine dqk rfl (sp_rFits_at _) ?_ | refine dqK rfl (sp_rFits_at _) ?_ | refine dqT ?_ | refine dqF ?_ | refine den_t rfl ?_ | refine den_f rfl ?_ | refine dqTn ?_ | refine dqFn ?_ | refine den_let1 (dx_mgetR (d := I 2) rfl rfl rfl) ?_ | refine den_let1 (dx_mgetR (d := I 1) rfl rfl rfl) ?_ | refine den_let1 (dx_mgetR (d := I 0) rfl rfl rfl) ?_ | refine den_ck (hold_inr rfl rfl (by omega) (by simp)) ?_ | refine den_let1 (den_idx rfl rfl (by omega) rfl rfl) ?_ | refine den_let1 (den_mk rfl rfl (by simp)) ?_ | refine den_let1 (den_len rfl rfl) ?_ | refine den_let1 (den_mul rfl rfl (by omega)) ?_ | refine den_let1 (den_remY rfl rfl (by decide) (by assumption)) ?_ | exact den_ret rfl (by rw [hF (by (repeat' (first | rfl | rw [pushM_none (by first | omega | (simp only [List.length_append, List.length_cons, List.length_nil] at *; omega))] | rw [pushM_some (by first | omega | (simp only [List.length_append, List.length_cons, List.length_nil] at *; omega)) (by omega) (by omega)] | rw [if_pos (by omega)] | rw [if_neg (by omega)] | simp only [Option.bind_some, Option.bind_none])))]; rfl) | exact den_ret rfl (by rw [hF]; rfl) | exact den_again rfl rfl (hO _ (by (repeat' (first | rfl | rw [pushM_none (by first | omega | (simp only [List.length_append, List.length_cons, List.length_nil] at *; omega))] | rw [pushM_some (by first | omega | (simp only [List.length_append, List.length_cons, List.length_nil] at *; omega)) (by omega) (by omega)] | rw [if_pos (by omega)] | rw [if_neg (by omega)] | simp only [Option.bind_some, Option.bind_none])))) | (refine den_loop rfl ?_; rw [iterT]) | (refine den_again rfl rfl ?_; rw [iterT]) | refine den_sp rfl (fun h => ?_) (fun h => ?_) | refine tZn (fun h => ?_) (fun h => ?_))
    · have e7 : bitI (decide (b < a)) = 0 := by with_unfolding_all simp [bitI, hab]
      rw [e7] at hF hO
      repeat' (first | refine dq1 ?_ | refine dqc ?_ | refine dqm ?_ | refine dqk rfl (sp_rFits_at _) ?_ | refine dqK rfl (sp_rFits_at _) ?_ | refine dqT ?_ | refine dqF ?_ | refine den_t rfl ?_ | refine den_f rfl ?_ | refine dqTn ?_ | refine dqFn ?_ | refine den_let1 (dx_mgetR (d := I 2) rfl rfl rfl) ?_ | refine den_let1 (dx_mgetR (d := I 1) rfl rfl rfl) ?_ | refine den_let1 (dx_mgetR (d := I 0) rfl rfl rfl) ?_ | refine den_ck (hold_inr rfl rfl (by omega) (by simp)) ?_ | refine den_let1 (den_idx rfl rfl (by omega) rfl rfl) ?_ | refine den_let1 (den_mk rfl rfl (by simp)) ?_ | refine den_let1 (den_len rfl rfl) ?_ | refine den_let1 (den_mul rfl rfl (by omega)) ?_ | refine den_let1 (den_remY rfl rfl (by decide) (by assumption)) ?_ | exact den_ret rfl (by rw [hF (by (repeat' (first | rfl | rw [pushM_none (by first | omega | (simp only [List.length_append, List.length_cons, List.length_nil] at *; omega))] | rw [pushM_some (by first | omega | (simp only [List.length_append, List.length_cons, List.length_nil] at *; omega)) (by omega) (by omega)] | rw [if_pos (by omega)] | rw [if_neg (by omega)] | simp only [Option.bind_some, Option.bind_none])))]; rfl) | exact den_ret rfl (by rw [hF]; rfl) | exact den_again rfl rfl (hO _ (by (repeat' (first | rfl | rw [pushM_none (by first | omega | (simp only [List.length_append, List.length_cons, List.length_nil] at *; omega))] | rw [pushM_some (by first | omega | (simp only [List.length_append, List.length_cons, List.length_nil] at *; omega)) (by omega) (by omega)] | rw [if_pos (by omega)] | rw [if_neg (by omega)] | simp only [Option.bind_some, Option.bind_none])))) | (refine den_loop rfl ?_; rw [iterT]) | (refine den_again rfl rfl ?_; rw [iterT]) | refine den_sp rfl (fun h => ?_) (fun h => ?_) | refine tZn (fun h => ?_) (fun h => ?_))
end Go.Proofs.YtajaacgchhmbjaaDoor
namespace Go.Proofs.YtajaacgchhmbjaaDoor
open Go.RowKit
set_option linter.unusedVariables false
set_option linter.unusedSimpArgs false
set_option maxRecDepth 100000
set_option maxHeartbeats 8000000
attribute [local irreducible] specOf spD ordP mixI bitI sp_rFits
attribute [local irreducible] den denX denXs holdXs
theorem rstep_9 : RStep 9 := by
  intro l s0 s ht nn k R again' hl16 hsl hfit hk hx hF hO; have hcase := pop_cases hfit; have hs0t : s.take (((s.length : Nat) : Int) - 0).toNat = s := (by rw [show (((s.length : Nat) : Int) - 0).toNat = s.length by omega]; exact List.take_length); simp only [stepM, Int.reduceEq, if_true, if_false] at hF hO; unfold runE; with_unfolding_all show den spsRun _ (loopOf t_rRunOps) [_, _, _, _, _, _, _, _, _, _, _, _, _, _, _, _, _, _, _, _, _] _ = _; simp only [t_rRunOps, loopOf]
  rcases hcase with ⟨c1, c2⟩ | ⟨a, t, fa, p1, p3, p4, p5, -⟩
  · try simp only [c2, twoM, oneM, Option.bind_none] at hF hO
    repeat' (first | refine dq1 ?_ | refine dqc ?_ | refine dqm ?_ | refine dqk rfl (sp_rFits_at _) ?_ | refine dqK rfl (sp_rFits_at _) ?_ | refine dqT ?_ | refine dqF ?_ | refine den_t rfl ?_ | refine den_f rfl ?_ | refine dqTn ?_ | refine dqFn ?_ | refine den_let1 (dx_mgetR (d := I 2) rfl rfl rfl) ?_ | refine den_let1 (dx_mgetR (d := I 1) rfl rfl rfl) ?_ | refine den_let1 (dx_mgetR (d := I 0) rfl rfl rfl) ?_ | refine den_ck (hold_inr rfl rfl (by omega) (by simp)) ?_ | refine den_let1 (den_idx rfl rfl (by omega) rfl rfl) ?_ | refine den_let1 (den_mk rfl rfl (by simp)) ?_ | refine den_let1 (den_len rfl rfl) ?_ | refine den_let1 (den_mul rfl rfl (by omega)) ?_ | refine den_let1 (den_remY rfl rfl (by decide) (by assumption)) ?_ | exact den_ret rfl (by rw [hF (by (repeat' (first | rfl | rw [pushM_none (by first | omega | (simp only [List.length_append, List.length_cons, List.length_nil] at *; omega))] | rw [pushM_some (by first | omega | (simp only [List.length_append, List.length_cons, List.length_nil] at *; omega)) (by omega) (by omega)] | rw [if_pos (by omega)] | rw [if_neg (by omega)] | simp only [Option.bind_some, Option.bind_none])))]; rfl) | exact den_ret rfl (by rw [hF]; rfl) | exact den_again rfl rfl (hO _ (by (repeat' (first | rfl | rw [pushM_none (by first | omega | (simp only [List.length_append, List.length_cons, List.length_nil] at *; omega))] | rw [pushM_some (by first | omega | (simp only [List.length_append, List.length_cons, List.length_nil] at *; omega)) (by omega) (by omega)] | rw [if_pos (by omega)] | rw [if_neg (by omega)] | simp only [Option.bind_some, Option.bind_none])))) | (refine den_loop rfl ?_; rw [iterT]) | (refine den_again rfl rfl ?_; rw [iterT]) | refine den_sp rfl (fun h => ?_) (fun h => ?_) | refine tZn (fun h => ?_) (fun h => ?_))
  · try simp only [p1, twoM, oneM, Option.bind_none, Option.bind_some] at hF hO
    obtain ⟨fa1, fa2⟩ := id fa
    by_cases ha0 : a = 0
    · have e7 : bitI (decide (a = 0)) = 1 := by with_unfolding_all simp [bitI, ha0]
      rw [e7] at hF hO
      repeat' (first | refine dq1 ?_ | refine dqc ?_ | refine dqm ?_ | refine dqk rfl (sp_rFits_at _) ?_ | refine dqK rfl (sp_rFits_at _) ?_ | refine dqT ?_ | refine dqF ?_ | refine den_t rfl ?_ | refine den_f rfl ?_ | refine dqTn ?_ | refine dqFn ?_ | refine den_let1 (dx_mgetR (d := I 2) rfl rfl rfl) ?_ | refine den_let1 (dx_mgetR (d := I 1) rfl rfl rfl) ?_ | refine den_let1 (dx_mgetR (d := I 0) rfl rfl rfl) ?_ | refine den_ck (hold_inr rfl rfl (by omega) (by simp)) ?_ | refine den_let1 (den_idx rfl rfl (by omega) rfl rfl) ?_ | refine den_let1 (den_mk rfl rfl (by simp)) ?_ | refine den_let1 (den_len rfl rfl) ?_ | refine den_let1 (den_mul rfl rfl (by omega)) ?_ | refine den_let1 (den_remY rfl rfl (by decide) (by assumption)) ?_ | exact den_ret rfl (by rw [hF (by (repeat' (first | rfl | rw [pushM_none (by first | omega | (simp only [List.length_append, List.length_cons, List.length_nil] at *; omega))] | rw [pushM_some (by first | omega | (simp only [List.length_append, List.length_cons, List.length_nil] at *; omega)) (by omega) (by omega)] | rw [if_pos (by omega)] | rw [if_neg (by omega)] | simp only [Option.bind_some, Option.bind_none])))]; rfl) | exact den_ret rfl (by rw [hF]; rfl) | exact den_again rfl rfl (hO _ (by (repeat' (first | rfl | rw [pushM_none (by first | omega | (simp only [List.length_append, List.length_cons, List.length_nil] at *; omega))] | rw [pushM_some (by first | omega | (simp only [List.length_append, List.length_cons, List.length_nil] at *; omega)) (by omega) (by omega)] | rw [if_pos (by omega)] | rw [if_neg (by omega)] | simp only [Option.bind_some, Option.bind_none])))) | (refine den_loop rfl ?_; rw [iterT]) | (refine den_again rfl rfl ?_; rw [iterT]) | refine den_sp rfl (fun h => ?_) (fun h => ?_) | refine tZn (fun h => ?_) (fun h => ?_))
    · have e7 : bitI (decide (a = 0)) = 0 := by with_unfolding_all simp [bitI, ha0]
      rw [e7] at hF hO
      repeat' (first | refine dq1 ?_ | refine dqc ?_ | refine dqm ?_ | refine dqk rfl (sp_rFits_at _) ?_ | refine dqK rfl (sp_rFits_at _) ?_ | refine dqT ?_ | refine dqF ?_ | refine den_t rfl ?_ | refine den_f rfl ?_ | refine dqTn ?_ | refine dqFn ?_ | refine den_let1 (dx_mgetR (d := I 2) rfl rfl rfl) ?_ | refine den_let1 (dx_mgetR (d := I 1) rfl rfl rfl) ?_ | refine den_let1 (dx_mgetR (d := I 0) rfl rfl rfl) ?_ | refine den_ck (hold_inr rfl rfl (by omega) (by simp)) ?_ | refine den_let1 (den_idx rfl rfl (by omega) rfl rfl) ?_ | refine den_let1 (den_mk rfl rfl (by simp)) ?_ | refine den_let1 (den_len rfl rfl) ?_ | refine den_let1 (den_mul rfl rfl (by omega)) ?_ | refine den_let1 (den_remY rfl rfl (by decide) (by assumption)) ?_ | exact den_ret rfl (by rw [hF (by (repeat' (first | rfl | rw [pushM_none (by first | omega | (simp only [List.length_append, List.length_cons, List.length_nil] at *; omega))] | rw [pushM_some (by first | omega | (simp only [List.length_append, List.length_cons, List.length_nil] at *; omega)) (by omega) (by omega)] | rw [if_pos (by omega)] | rw [if_neg (by omega)] | simp only [Option.bind_some, Option.bind_none])))]; rfl) | exact den_ret rfl (by rw [hF]; rfl) | exact den_again rfl rfl (hO _ (by (repeat' (first | rfl | rw [pushM_none (by first | omega | (simp only [List.length_append, List.length_cons, List.length_nil] at *; omega))] | rw [pushM_some (by first | omega | (simp only [List.length_append, List.length_cons, List.length_nil] at *; omega)) (by omega) (by omega)] | rw [if_pos (by omega)] | rw [if_neg (by omega)] | simp only [Option.bind_some, Option.bind_none])))) | (refine den_loop rfl ?_; rw [iterT]) | (refine den_again rfl rfl ?_; rw [iterT]) | refine den_sp rfl (fun h => ?_) (fun h => ?_) | refine tZn (fun h => ?_) (fun h => ?_))
theorem rstep_10 : RStep 10 := by
  intro l s0 s ht nn k R again' hl16 hsl hfit hk hx hF hO; have hcase := pop_cases hfit; have hs0t : s.take (((s.length : Nat) : Int) - 0).toNat = s := (by rw [show (((s.length : Nat) : Int) - 0).toNat = s.length by omega]; exact List.take_length); simp only [stepM, Int.reduceEq, if_true, if_false] at hF hO; unfold runE; with_unfolding_all show den spsRun _ (loopOf t_rRunOps) [_, _, _, _, _, _, _, _, _, _, _, _, _, _, _, _, _, _, _, _, _] _ = _; simp only [t_rRunOps, loopOf]
  rcases hcase with ⟨c1, c2⟩ | ⟨a, t, fa, p1, p3, p4, p5, ⟨c1, c2⟩ | ⟨b, u, fb, q1, q3, q4, q5⟩⟩
  · try simp only [c2, twoM, oneM, Option.bind_none] at hF hO
    repeat' (first | refine dq1 ?_ | refine dqc ?_ | refine dqm ?_ | refine dqk rfl (sp_rFits_at _) ?_ | refine dqK rfl (sp_rFits_at _) ?_ | refine dqT ?_ | refine dqF ?_ | refine den_t rfl ?_ | refine den_f rfl ?_ | refine dqTn ?_ | refine dqFn ?_ | refine den_let1 (dx_mgetR (d := I 2) rfl rfl rfl) ?_ | refine den_let1 (dx_mgetR (d := I 1) rfl rfl rfl) ?_ | refine den_let1 (dx_mgetR (d := I 0) rfl rfl rfl) ?_ | refine den_ck (hold_inr rfl rfl (by omega) (by simp)) ?_ | refine den_let1 (den_idx rfl rfl (by omega) rfl rfl) ?_ | refine den_let1 (den_mk rfl rfl (by simp)) ?_ | refine den_let1 (den_len rfl rfl) ?_ | refine den_let1 (den_mul rfl rfl (by omega)) ?_ | refine den_let1 (den_remY rfl rfl (by decide) (by assumption)) ?_ | exact den_ret rfl (by rw [hF (by (repeat' (first | rfl | rw [pushM_none (by first | omega | (simp only [List.length_append, List.length_cons, List.length_nil] at *; omega))] | rw [pushM_some (by first | omega | (simp only [List.length_append, List.length_cons, List.length_nil] at *; omega)) (by omega) (by omega)] | rw [if_pos (by omega)] | rw [if_neg (by omega)] | simp only [Option.bind_some, Option.bind_none])))]; rfl) | exact den_ret rfl (by rw [hF]; rfl) | exact den_again rfl rfl (hO _ (by (repeat' (first | rfl | rw [pushM_none (by first | omega | (simp only [List.length_append, List.length_cons, List.length_nil] at *; omega))] | rw [pushM_some (by first | omega | (simp only [List.length_append, List.length_cons, List.length_nil] at *; omega)) (by omega) (by omega)] | rw [if_pos (by omega)] | rw [if_neg (by omega)] | simp only [Option.bind_some, Option.bind_none])))) | (refine den_loop rfl ?_; rw [iterT]) | (refine den_again rfl rfl ?_; rw [iterT]) | refine den_sp rfl (fun h => ?_) (fun h => ?_) | refine tZn (fun h => ?_) (fun h => ?_))
  · try simp only [p1, c2, twoM, oneM, Option.bind_none, Option.bind_some] at hF hO
    obtain ⟨fa1, fa2⟩ := id fa
    repeat' (first | refine dq1 ?_ | refine dqc ?_ | refine dqm ?_ | refine dqk rfl (sp_rFits_at _) ?_ | refine dqK rfl (sp_rFits_at _) ?_ | refine dqT ?_ | refine dqF ?_ | refine den_t rfl ?_ | refine den_f rfl ?_ | refine dqTn ?_ | refine dqFn ?_ | refine den_let1 (dx_mgetR (d := I 2) rfl rfl rfl) ?_ | refine den_let1 (dx_mgetR (d := I 1) rfl rfl rfl) ?_ | refine den_let1 (dx_mgetR (d := I 0) rfl rfl rfl) ?_ | refine den_ck (hold_inr rfl rfl (by omega) (by simp)) ?_ | refine den_let1 (den_idx rfl rfl (by omega) rfl rfl) ?_ | refine den_let1 (den_mk rfl rfl (by simp)) ?_ | refine den_let1 (den_len rfl rfl) ?_ | refine den_let1 (den_mul rfl rfl (by omega)) ?_ | refine den_let1 (den_remY rfl rfl (by decide) (by assumption)) ?_ | exact den_ret rfl (by rw [hF (by (repeat' (first | rfl | rw [pushM_none (by first | omega | (simp only [List.length_append, List.length_cons, List.length_nil] at *; omega))] | rw [pushM_some (by first | omega | (simp only [List.length_append, List.length_cons, List.length_nil] at *; omega)) (by omega) (by omega)] | rw [if_pos (by omega)] | rw [if_neg (by omega)] | simp only [Option.bind_some, Option.bind_none])))]; rfl) | exact den_ret rfl (by rw [hF]; rfl) | exact den_again rfl rfl (hO _ (by (repeat' (first | rfl | rw [pushM_none (by first | omega | (simp only [List.length_append, List.length_cons, List.length_nil] at *; omega))] | rw [pushM_some (by first | omega | (simp only [List.length_append, List.length_cons, List.length_nil] at *; omega)) (by omega) (by omega)] | rw [if_pos (by omega)] | rw [if_neg (by omega)] | simp only [Option.bind_some, Option.bind_none])))) | (refine den_loop rfl ?_; rw [iterT]) | (refine den_again rfl rfl ?_; rw [iterT]) | refine den_sp rfl (fun h => ?_) (fun h => ?_) | refine tZn (fun h => ?_) (fun h => ?_))
  · try simp only [p1, q1, twoM, oneM, Option.bind_none, Option.bind_some] at hF hO
    obtain ⟨fa1, fa2⟩ := id fa
    obtain ⟨fb1, fb2⟩ := id fb
    have hm0 : -9223372036854775808 ≤ b * a ∧ b * a ≤ 9223372036854775807 := by
      have h1 : (b * a).natAbs ≤ 1000000 * 1000000 := by rw [Int.natAbs_mul]; exact Nat.mul_le_mul (by omega) (by omega)
      omega
    by_cases hb0 : b = 0
    · have e7 : bitI (decide (b ≠ 0) && decide (a ≠ 0)) = 0 := by with_unfolding_all simp [bitI, hb0]
      rw [e7] at hF hO
      have hz : ¬ b * a ≠ 0 := by rw [hb0]; simp
      repeat' (first | refine dq1 ?_ | refine dqc ?_ | refine dqm ?_ | refine dqk rfl (sp_rFits_at _) ?_ | refine dqK rfl (sp_rFits_at _) ?_ | refine dqT ?_ | refine dqF ?_ | refine den_t rfl ?_ | refine den_f rfl ?_ | refine dqTn ?_ | refine dqFn ?_ | refine den_let1 (dx_mgetR (d := I 2) rfl rfl rfl) ?_ | refine den_let1 (dx_mgetR (d := I 1) rfl rfl rfl) ?_ | refine den_let1 (dx_mgetR (d := I 0) rfl rfl rfl) ?_ | refine den_ck (hold_inr rfl rfl (by omega) (by simp)) ?_ | refine den_let1 (den_idx rfl rfl (by omega) rfl rfl) ?_ | refine den_let1 (den_mk rfl rfl (by simp)) ?_ | refine den_let1 (den_len rfl rfl) ?_ | refine den_let1 (den_mul rfl rfl (by omega)) ?_ | refine den_let1 (den_remY rfl rfl (by decide) (by assumption)) ?_ | exact den_ret rfl (by rw [hF (by (repeat' (first | rfl | rw [pushM_none (by first | omega | (simp only [List.length_append, List.length_cons, List.length_nil] at *; omega))] | rw [pushM_some (by first | omega | (simp only [List.length_append, List.length_cons, List.length_nil] at *; omega)) (by omega) (by omega)] | rw [if_pos (by omega)] | rw [if_neg (by omega)] | simp only [Option.bind_some, Option.bind_none])))]; rfl) | exact den_ret rfl (by rw [hF]; rfl) | exact den_again rfl rfl (hO _ (by (repeat' (first | rfl | rw [pushM_none (by first | omega | (simp only [List.length_append, List.length_cons, List.length_nil] at *; omega))] | rw [pushM_some (by first | omega | (simp only [List.length_append, List.length_cons, List.length_nil] at *; omega)) (by omega) (by omega)] | rw [if_pos (by omega)] | rw [if_neg (by omega)] | simp only [Option.bind_some, Option.bind_none])))) | (refine den_loop rfl ?_; rw [iterT]) | (refine den_again rfl rfl ?_; rw [iterT]) | refine den_sp rfl (fun h => ?_) (fun h => ?_) | refine tZn (fun h => ?_) (fun h => ?_))
    · by_cases ha0 : a = 0
      · have e7 : bitI (decide (b ≠ 0) && decide (a ≠ 0)) = 0 := by with_unfolding_all simp [bitI, ha0]
        rw [e7] at hF hO
        have hz : ¬ b * a ≠ 0 := by rw [ha0]; simp
        repeat' (first | refine dq1 ?_ | refine dqc ?_ | refine dqm ?_ | refine dqk rfl (sp_rFits_at _) ?_ | refine dqK rfl (sp_rFits_at _) ?_ | refine dqT ?_ | refine dqF ?_ | refine den_t rfl ?_ | refine den_f rfl ?_ | refine dqTn ?_ | refine dqFn ?_ | refine den_let1 (dx_mgetR (d := I 2) rfl rfl rfl) ?_ | refine den_let1 (dx_mgetR (d := I 1) rfl rfl rfl) ?_ | refine den_let1 (dx_mgetR (d := I 0) rfl rfl rfl) ?_ | refine den_ck (hold_inr rfl rfl (by omega) (by simp)) ?_ | refine den_let1 (den_idx rfl rfl (by omega) rfl rfl) ?_ | refine den_let1 (den_mk rfl rfl (by simp)) ?_ | refine den_let1 (den_len rfl rfl) ?_ | refine den_let1 (den_mul rfl rfl (by omega)) ?_ | refine den_let1 (den_remY rfl rfl (by decide) (by assumption)) ?_ | exact den_ret rfl (by rw [hF (by (repeat' (first | rfl | rw [pushM_none (by first | omega | (simp only [List.length_append, List.length_cons, List.length_nil] at *; omega))] | rw [pushM_some (by first | omega | (simp only [List.length_append, List.length_cons, List.length_nil] at *; omega)) (by omega) (by omega)] | rw [if_pos (by omega)] | rw [if_neg (by omega)] | simp only [Option.bind_some, Option.bind_none])))]; rfl) | exact den_ret rfl (by rw [hF]; rfl) | exact den_again rfl rfl (hO _ (by (repeat' (first | rfl | rw [pushM_none (by first | omega | (simp only [List.length_append, List.length_cons, List.length_nil] at *; omega))] | rw [pushM_some (by first | omega | (simp only [List.length_append, List.length_cons, List.length_nil] at *; omega)) (by omega) (by omega)] | rw [if_pos (by omega)] | rw [if_neg (by omega)] | simp only [Option.bind_some, Option.bind_none])))) | (refine den_loop rfl ?_; rw [iterT]) | (refine den_again rfl rfl ?_; rw [iterT]) | refine den_sp rfl (fun h => ?_) (fun h => ?_) | refine tZn (fun h => ?_) (fun h => ?_))
      · have e7 : bitI (decide (b ≠ 0) && decide (a ≠ 0)) = 1 := by with_unfolding_all simp [bitI, hb0, ha0]
        rw [e7] at hF hO
        have hz : b * a ≠ 0 := Int.mul_ne_zero hb0 ha0
        repeat' (first | refine dq1 ?_ | refine dqc ?_ | refine dqm ?_ | refine dqk rfl (sp_rFits_at _) ?_ | refine dqK rfl (sp_rFits_at _) ?_ | refine dqT ?_ | refine dqF ?_ | refine den_t rfl ?_ | refine den_f rfl ?_ | refine dqTn ?_ | refine dqFn ?_ | refine den_let1 (dx_mgetR (d := I 2) rfl rfl rfl) ?_ | refine den_let1 (dx_mgetR (d := I 1) rfl rfl rfl) ?_ | refine den_let1 (dx_mgetR (d := I 0) rfl rfl rfl) ?_ | refine den_ck (hold_inr rfl rfl (by omega) (by simp)) ?_ | refine den_let1 (den_idx rfl rfl (by omega) rfl rfl) ?_ | refine den_let1 (den_mk rfl rfl (by simp)) ?_ | refine den_let1 (den_len rfl rfl) ?_ | refine den_let1 (den_mul rfl rfl (by omega)) ?_ | refine den_let1 (den_remY rfl rfl (by decide) (by assumption)) ?_ | exact den_ret rfl (by rw [hF (by (repeat' (first | rfl | rw [pushM_none (by first | omega | (simp only [List.length_append, List.length_cons, List.length_nil] at *; omega))] | rw [pushM_some (by first | omega | (simp only [List.length_append, List.length_cons, List.length_nil] at *; omega)) (by omega) (by omega)] | rw [if_pos (by omega)] | rw [if_neg (by omega)] | simp only [Option.bind_some, Option.bind_none])))]; rfl) | exact den_ret rfl (by rw [hF]; rfl) | exact den_again rfl rfl (hO _ (by (repeat' (first | rfl | rw [pushM_none (by first | omega | (simp only [List.length_append, List.length_cons, List.length_nil] at *; omega))] | rw [pushM_some (by first | omega | (simp only [List.length_append, List.length_cons, List.length_nil] at *; omega)) (by omega) (by omega)] | rw [if_pos (by omega)] | rw [if_neg (by omega)] | simp only [Option.bind_some, Option.bind_none])))) | (refine den_loop rfl ?_; rw [iterT]) | (refine den_again rfl rfl ?_; rw [iterT]) | refine den_sp rfl (fun h => ?_) (fun h => ?_) | refine tZn (fun h => ?_) (fun h => ?_))
theorem rstep_11 : RStep 11 := by
  intro l s0 s ht nn k R again' hl16 hsl hfit hk hx hF hO; have hcase := pop_cases hfit; have hs0t : s.take (((s.length : Nat) : Int) - 0).toNat = s := (by rw [show (((s.length : Nat) : Int) - 0).toNat = s.length by omega]; exact List.take_length); simp only [stepM, Int.reduceEq, if_true, if_false] at hF hO; unfold runE; with_unfolding_all show den spsRun _ (loopOf t_rRunOps) [_, _, _, _, _, _, _, _, _, _, _, _, _, _, _, _, _, _, _, _, _] _ = _; simp only [t_rRunOps, loopOf]
  rcases hcase with ⟨c1, c2⟩ | ⟨a, t, fa, p1, p3, p4, p5, ⟨c1, c2⟩ | ⟨b, u, fb, q1, q3, q4, q5⟩⟩
  · try simp only [c2, twoM, oneM, Option.bind_none] at hF hO
    repeat' (first | refine dq1 ?_ | refine dqc ?_ | refine dqm ?_ | refine dqk rfl (sp_rFits_at _) ?_ | refine dqK rfl (sp_rFits_at _) ?_ | refine dqT ?_ | refine dqF ?_ | refine den_t rfl ?_ | refine den_f rfl ?_ | refine dqTn ?_ | refine dqFn ?_ | refine den_let1 (dx_mgetR (d := I 2) rfl rfl rfl) ?_ | refine den_let1 (dx_mgetR (d := I 1) rfl rfl rfl) ?_ | refine den_let1 (dx_mgetR (d := I 0) rfl rfl rfl) ?_ | refine den_ck (hold_inr rfl rfl (by omega) (by simp)) ?_ | refine den_let1 (den_idx rfl rfl (by omega) rfl rfl) ?_ | refine den_let1 (den_mk rfl rfl (by simp)) ?_ | refine den_let1 (den_len rfl rfl) ?_ | refine den_let1 (den_mul rfl rfl (by omega)) ?_ | refine den_let1 (den_remY rfl rfl (by decide) (by assumption)) ?_ | exact den_ret rfl (by rw [hF (by (repeat' (first | rfl | rw [pushM_none (by first | omega | (simp only [List.length_append, List.length_cons, List.length_nil] at *; omega))] | rw [pushM_some (by first | omega | (simp only [List.length_append, List.length_cons, List.length_nil] at *; omega)) (by omega) (by omega)] | rw [if_pos (by omega)] | rw [if_neg (by omega)] | simp only [Option.bind_some, Option.bind_none])))]; rfl) | exact den_ret rfl (by rw [hF]; rfl) | exact den_again rfl rfl (hO _ (by (repeat' (first | rfl | rw [pushM_none (by first | omega | (simp only [List.length_append, List.length_cons, List.length_nil] at *; omega))] | rw [pushM_some (by first | omega | (simp only [List.length_append, List.length_cons, List.length_nil] at *; omega)) (by omega) (by omega)] | rw [if_pos (by omega)] | rw [if_neg (by omega)] | simp only [Option.bind_some, Option.bind_none])))) | (refine den_loop rfl ?_; rw [iterT]) | (refine den_again rfl rfl ?_; rw [iterT]) | refine den_sp rfl (fun h => ?_) (fun h => ?_) | refine tZn (fun h => ?_) (fun h => ?_))
  · try simp only [p1, c2, twoM, oneM, Option.bind_none, Option.bind_some] at hF hO
    obtain ⟨fa1, fa2⟩ := id fa
    repeat' (first | refine dq1 ?_ | refine dqc ?_ | refine dqm ?_ | refine dqk rfl (sp_rFits_at _) ?_ | refine dqK rfl (sp_rFits_at _) ?_ | refine dqT ?_ | refine dqF ?_ | refine den_t rfl ?_ | refine den_f rfl ?_ | refine dqTn ?_ | refine dqFn ?_ | refine den_let1 (dx_mgetR (d := I 2) rfl rfl rfl) ?_ | refine den_let1 (dx_mgetR (d := I 1) rfl rfl rfl) ?_ | refine den_let1 (dx_mgetR (d := I 0) rfl rfl rfl) ?_ | refine den_ck (hold_inr rfl rfl (by omega) (by simp)) ?_ | refine den_let1 (den_idx rfl rfl (by omega) rfl rfl) ?_ | refine den_let1 (den_mk rfl rfl (by simp)) ?_ | refine den_let1 (den_len rfl rfl) ?_ | refine den_let1 (den_mul rfl rfl (by omega)) ?_ | refine den_let1 (den_remY rfl rfl (by decide) (by assumption)) ?_ | exact den_ret rfl (by rw [hF (by (repeat' (first | rfl | rw [pushM_none (by first | omega | (simp only [List.length_append, List.length_cons, List.length_nil] at *; omega))] | rw [pushM_some (by first | omega | (simp only [List.length_append, List.length_cons, List.length_nil] at *; omega)) (by omega) (by omega)] | rw [if_pos (by omega)] | rw [if_neg (by omega)] | simp only [Option.bind_some, Option.bind_none])))]; rfl) | exact den_ret rfl (by rw [hF]; rfl) | exact den_again rfl rfl (hO _ (by (repeat' (first | rfl | rw [pushM_none (by first | omega | (simp only [List.length_append, List.length_cons, List.length_nil] at *; omega))] | rw [pushM_some (by first | omega | (simp only [List.length_append, List.length_cons, List.length_nil] at *; omega)) (by omega) (by omega)] | rw [if_pos (by omega)] | rw [if_neg (by omega)] | simp only [Option.bind_some, Option.bind_none])))) | (refine den_loop rfl ?_; rw [iterT]) | (refine den_again rfl rfl ?_; rw [iterT]) | refine den_sp rfl (fun h => ?_) (fun h => ?_) | refine tZn (fun h => ?_) (fun h => ?_))
  · try simp only [p1, q1, twoM, oneM, Option.bind_none, Option.bind_some] at hF hO
    obtain ⟨fa1, fa2⟩ := id fa
    obtain ⟨fb1, fb2⟩ := id fb
    repeat' (first | refine dq1 ?_ | refine dqc ?_ | refine dqm ?_ | refine dqk rfl (sp_rFits_at _) ?_ | refine dqK rfl (sp_rFits_at _) ?_ | refine dqT ?_ | refine dqF ?_ | refine den_t rfl ?_ | refine den_f rfl ?_ | refine dqTn ?_ | refine dqFn ?_ | refine den_let1 (dx_mgetR (d := I 2) rfl rfl rfl) ?_ | refine den_let1 (dx_mgetR (d := I 1) rfl rfl rfl) ?_ | refine den_let1 (dx_mgetR (d := I 0) rfl rfl rfl) ?_ | refine den_ck (hold_inr rfl rfl (by omega) (by simp)) ?_ | refine den_let1 (den_idx rfl rfl (by omega) rfl rfl) ?_ | refine den_let1 (den_mk rfl rfl (by simp)) ?_ | refine den_let1 (den_len rfl rfl) ?_ | refine den_let1 (den_mul rfl rfl (by omega)) ?_ | refine den_let1 (den_remY rfl rfl (by decide) (by assumption)) ?_ | exact den_ret rfl (by rw [hF (by (repeat' (first | rfl | rw [pushM_none (by first | omega | (simp only [List.length_append, List.length_cons, List.length_nil] at *; omega))] | rw [pushM_some (by first | omega | (simp only [List.length_append, List.length_cons, List.length_nil] at *; omega)) (by omega) (by omega)] | rw [if_pos (by omega)] | rw [if_neg (by omega)] | simp only [Option.bind_some, Option.bind_none])))]; rfl) | exact den_ret rfl (by rw [hF]; rfl) | exact den_again rfl rfl (hO _ (by (repeat' (first | rfl | rw [pushM_none (by first | omega | (simp only [List.length_append, List.length_cons, List.length_nil] at *; omega))] | rw [pushM_some (by first | omega | (simp only [List.length_append, List.length_cons, List.length_nil] at *; omega)) (by omega) (by omega)] | rw [if_pos (by omega)] | rw [if_neg (by omega)] | simp only [Option.bind_some, Option.bind_none])))) | (refine den_loop rfl ?_; rw [iterT]) | (refine den_again rfl rfl ?_; rw [iterT]) | refine den_sp rfl (fun h => ?_) (fun h => ?_) | refine tZn (fun h => ?_) (fun h => ?_))
theorem rstep_12 : RStep 12 := by
  intro l s0 s ht nn k R again' hl16 hsl hfit hk hx hF hO; have hcase := pop_cases hfit; have hs0t : s.take (((s.length : Nat) : Int) - 0).toNat = s := (by rw [show (((s.length : Nat) : Int) - 0).toNat = s.length by omega]; exact List.take_length); simp only [stepM, Int.reduceEq, if_true, if_false] at hF hO; unfold runE; with_unfolding_all show den spsRun _ (loopOf t_rRunOps) [_, _, _, _, _, _, _, _, _, _, _, _, _, _, _, _, _, _, _, _, _] _ = _; simp only [t_rRunOps, loopOf]
  rcases hcase with ⟨c1, c2⟩ | ⟨a, t, fa, p1, p3, p4, p5, ⟨c1, c2⟩ | ⟨b, u, fb, q1, q3, q4, q5⟩⟩
  · try simp only [c2, twoM, oneM, Option.bind_none] at hF hO
    repeat' (first | refine dq1 ?_ | refine dqc ?_ | refine dqm ?_ | refine dqk rfl (sp_rFits_at _) ?_ | refine dqK rfl (sp_rFits_at _) ?_ | refine dqT ?_ | refine dqF ?_ | refine den_t rfl ?_ | refine den_f rfl ?_ | refine dqTn ?_ | refine dqFn ?_ | refine den_let1 (dx_mgetR (d := I 2) rfl rfl rfl) ?_ | refine den_let1 (dx_mgetR (d := I 1) rfl rfl rfl) ?_ | refine den_let1 (dx_mgetR (d := I 0) rfl rfl rfl) ?_ | refine den_ck (hold_inr rfl rfl (by omega) (by simp)) ?_ | refine den_let1 (den_idx rfl rfl (by omega) rfl rfl) ?_ | refine den_let1 (den_mk rfl rfl (by simp)) ?_ | refine den_let1 (den_len rfl rfl) ?_ | refine den_let1 (den_mul rfl rfl (by omega)) ?_ | refine den_let1 (den_remY rfl rfl (by decide) (by assumption)) ?_ | exact den_ret rfl (by rw [hF (by (repeat' (first | rfl | rw [pushM_none (by first | omega | (simp only [List.length_append, List.length_cons, List.length_nil] at *; omega))] | rw [pushM_some (by first | omega | (simp only [List.length_append, List.length_cons, List.length_nil] at *; omega)) (by omega) (by omega)] | rw [if_pos (by omega)] | rw [if_neg (by omega)] | simp only [Option.bind_some, Option.bind_none])))]; rfl) | exact den_ret rfl (by rw [hF]; rfl) | exact den_again rfl rfl (hO _ (by (repeat' (first | rfl | rw [pushM_none (by first | omega | (simp only [List.length_append, List.length_cons, List.length_nil] at *; omega))] | rw [pushM_some (by first | omega | (simp only [List.length_append, List.length_cons, List.length_nil] at *; omega)) (by omega) (by omega)] | rw [if_pos (by omega)] | rw [if_neg (by omega)] | simp only [Option.bind_some, Option.bind_none])))) | (refine den_loop rfl ?_; rw [iterT]) | (refine den_again rfl rfl ?_; rw [iterT]) | refine den_sp rfl (fun h => ?_) (fun h => ?_) | refine tZn (fun h => ?_) (fun h => ?_))
  · try simp only [p1, c2, twoM, oneM, Option.bind_none, Option.bind_some] at hF hO
    obtain ⟨fa1, fa2⟩ := id fa
    repeat' (first | refine dq1 ?_ | refine dqc ?_ | refine dqm ?_ | refine dqk rfl (sp_rFits_at _) ?_ | refine dqK rfl (sp_rFits_at _) ?_ | refine dqT ?_ | refine dqF ?_ | refine den_t rfl ?_ | refine den_f rfl ?_ | refine dqTn ?_ | refine dqFn ?_ | refine den_let1 (dx_mgetR (d := I 2) rfl rfl rfl) ?_ | refine den_let1 (dx_mgetR (d := I 1) rfl rfl rfl) ?_ | refine den_let1 (dx_mgetR (d := I 0) rfl rfl rfl) ?_ | refine den_ck (hold_inr rfl rfl (by omega) (by simp)) ?_ | refine den_let1 (den_idx rfl rfl (by omega) rfl rfl) ?_ | refine den_let1 (den_mk rfl rfl (by simp)) ?_ | refine den_let1 (den_len rfl rfl) ?_ | refine den_let1 (den_mul rfl rfl (by omega)) ?_ | refine den_let1 (den_remY rfl rfl (by decide) (by assumption)) ?_ | exact den_ret rfl (by rw [hF (by (repeat' (first | rfl | rw [pushM_none (by first | omega | (simp only [List.length_append, List.length_cons, List.length_nil] at *; omega))] | rw [pushM_some (by first | omega | (simp only [List.length_append, List.length_cons, List.length_nil] at *; omega)) (by omega) (by omega)] | rw [if_pos (by omega)] | rw [if_neg (by omega)] | simp only [Option.bind_some, Option.bind_none])))]; rfl) | exact den_ret rfl (by rw [hF]; rfl) | exact den_again rfl rfl (hO _ (by (repeat' (first | rfl | rw [pushM_none (by first | omega | (simp only [List.length_append, List.length_cons, List.length_nil] at *; omega))] | rw [pushM_some (by first | omega | (simp only [List.length_append, List.length_cons, List.length_nil] at *; omega)) (by omega) (by omega)] | rw [if_pos (by omega)] | rw [if_neg (by omega)] | simp only [Option.bind_some, Option.bind_none])))) | (refine den_loop rfl ?_; rw [iterT]) | (refine den_again rfl rfl ?_; rw [iterT]) | refine den_sp rfl (fun h => ?_) (fun h => ?_) | refine tZn (fun h => ?_) (fun h => ?_))
  · try simp only [p1, q1, twoM, oneM, Option.bind_none, Option.bind_some] at hF hO
    obtain ⟨fa1, fa2⟩ := id fa
    obtain ⟨fb1, fb2⟩ := id fb
    repeat' (first | refine dq1 ?_ | refine dqc ?_ | refine dqm ?_ | refine dqk rfl (sp_rFits_at _) ?_ | refine dqK rfl (sp_rFits_at _) ?_ | refine dqT ?_ | refine dqF ?_ | refine den_t rfl ?_ | refine den_f rfl ?_ | refine dqTn ?_ | refine dqFn ?_ | refine den_let1 (dx_mgetR (d := I 2) rfl rfl rfl) ?_ | refine den_let1 (dx_mgetR (d := I 1) rfl rfl rfl) ?_ | refine den_let1 (dx_mgetR (d := I 0) rfl rfl rfl) ?_ | refine den_ck (hold_inr rfl rfl (by omega) (by simp)) ?_ | refine den_let1 (den_idx rfl rfl (by omega) rfl rfl) ?_ | refine den_let1 (den_mk rfl rfl (by simp)) ?_ | refine den_let1 (den_len rfl rfl) ?_ | refine den_let1 (den_mul rfl rfl (by omega)) ?_ | refine den_let1 (den_remY rfl rfl (by decide) (by assumption)) ?_ | exact den_ret rfl (by rw [hF (by (repeat' (first | rfl | rw [pushM_none (by first | omega | (simp only [List.length_append, List.length_cons, List.length_nil] at *; omega))] | rw [pushM_some (by first | omega | (simp only [List.length_append, List.length_cons, List.length_nil] at *; omega)) (by omega) (by omega)] | rw [if_pos (by omega)] | rw [if_neg (by omega)] | simp only [Option.bind_some, Option.bind_none])))]; rfl) | exact den_ret rfl (by rw [hF]; rfl) | exact den_again rfl rfl (hO _ (by (repeat' (first | rfl | rw [pushM_none (by first | omega | (simp only [List.length_append, List.length_cons, List.length_nil] at *; omega))] | rw [pushM_some (by first | omega | (simp only [List.length_append, List.length_cons, List.length_nil] at *; omega)) (by omega) (by omega)] | rw [if_pos (by omega)] | rw [if_neg (by omega)] | simp only [Option.bind_some, Option.bind_none])))) | (refine den_loop rfl ?_; rw [iterT]) | (refine den_again rfl rfl ?_; rw [iterT]) | refine den_sp rfl (fun h => ?_) (fun h => ?_) | refine tZn (fun h => ?_) (fun h => ?_))
theorem mixStep_bd' {x : Int} (h0 : 0 ≤ x) : 0 ≤ mixStep x ∧ mixStep x < 1000003 := by
  unfold mixStep
  exact ⟨Int.tmod_nonneg _ (by omega), Int.tmod_lt_of_pos _ (by omega)⟩
theorem rstep_13 : RStep 13 := by
  intro l s0 s ht nn k R again' hl16 hsl hfit hk hx hF hO; have hcase := pop_cases hfit; have hs0t : s.take (((s.length : Nat) : Int) - 0).toNat = s := (by rw [show (((s.length : Nat) : Int) - 0).toNat = s.length by omega]; exact List.take_length); simp only [stepM, Int.reduceEq, if_true, if_false] at hF hO; unfold runE; with_unfolding_all show den spsRun _ (loopOf t_rRunOps) [_, _, _, _, _, _, _, _, _, _, _, _, _, _, _, _, _, _, _, _, _] _ = _; simp only [t_rRunOps, loopOf]
  rcases hcase with ⟨c1, c2⟩ | ⟨a, t, fa, p1, p3, p4, p5, -⟩
  · try simp only [c2, twoM, oneM, Option.bind_none] at hF hO
    repeat' (first | refine dq1 ?_ | refine dqc ?_ | refine dqm ?_ | refine dqk rfl (sp_rFits_at _) ?_ | refine dqK rfl (sp_rFits_at _) ?_ | refine dqT ?_ | refine dqF ?_ | refine den_t rfl ?_ | refine den_f rfl ?_ | refine dqTn ?_ | refine dqFn ?_ | refine den_let1 (dx_mgetR (d := I 2) rfl rfl rfl) ?_ | refine den_let1 (dx_mgetR (d := I 1) rfl rfl rfl) ?_ | refine den_let1 (dx_mgetR (d := I 0) rfl rfl rfl) ?_ | refine den_ck (hold_inr rfl rfl (by omega) (by simp)) ?_ | refine den_let1 (den_idx rfl rfl (by omega) rfl rfl) ?_ | refine den_let1 (den_mk rfl rfl (by simp)) ?_ | refine den_let1 (den_len rfl rfl) ?_ | refine den_let1 (den_mul rfl rfl (by omega)) ?_ | refine den_let1 (den_remY rfl rfl (by decide) (by assumption)) ?_ | exact den_ret rfl (by rw [hF (by (repeat' (first | rfl | rw [pushM_none (by first | omega | (simp only [List.length_append, List.length_cons, List.length_nil] at *; omega))] | rw [pushM_some (by first | omega | (simp only [List.length_append, List.length_cons, List.length_nil] at *; omega)) (by omega) (by omega)] | rw [if_pos (by omega)] | rw [if_neg (by omega)] | simp only [Option.bind_some, Option.bind_none])))]; rfl) | exact den_ret rfl (by rw [hF]; rfl) | exact den_again rfl rfl (hO _ (by (repeat' (first | rfl | rw [pushM_none (by first | omega | (simp only [List.length_append, List.length_cons, List.length_nil] at *; omega))] | rw [pushM_some (by first | omega | (simp only [List.length_append, List.length_cons, List.length_nil] at *; omega)) (by omega) (by omega)] | rw [if_pos (by omega)] | rw [if_neg (by omega)] | simp only [Option.bind_some, Option.bind_none])))) | (refine den_loop rfl ?_; rw [iterT]) | (refine den_again rfl rfl ?_; rw [iterT]) | refine den_sp rfl (fun h => ?_) (fun h => ?_) | refine tZn (fun h => ?_) (fun h => ?_))
  · try simp only [p1, twoM, oneM, Option.bind_none, Option.bind_some] at hF hO
    obtain ⟨fa1, fa2⟩ := id fa
    obtain ⟨x1, hx1⟩ : ∃ x, x = mixStep (a + 1000000) := ⟨_, rfl⟩
    obtain ⟨x2, hx2⟩ : ∃ x, x = mixStep x1 := ⟨_, rfl⟩
    obtain ⟨x3, hx3⟩ : ∃ x, x = mixStep x2 := ⟨_, rfl⟩
    obtain ⟨x4, hx4⟩ : ∃ x, x = x3.tmod 1000001 := ⟨_, rfl⟩
    have b1 := mixStep_bd' (x := a + 1000000) (by omega)
    rw [← hx1] at b1
    have b2 := mixStep_bd' b1.1
    rw [← hx2] at b2
    have b3 := mixStep_bd' b2.1
    rw [← hx3] at b3
    have em : mixI a = x4 := by
      with_unfolding_all show (mixStep (mixStep (mixStep (a + 1000000)))).tmod 1000001 = x4
      rw [← hx1, ← hx2, ← hx3, ← hx4]
    have b4 := Int.tmod_nonneg (1000001 : Int) b3.1
    have b5 := Int.tmod_lt_of_pos x3 (b := 1000001) (by omega)
    rw [← hx4] at b4 b5
    have r1 : ((a + 1000000) * 7919 + 104729).tmod 1000003 = x1 := hx1.symm
    have r2 : (x1 * 7919 + 104729).tmod 1000003 = x2 := hx2.symm
    have r3 : (x2 * 7919 + 104729).tmod 1000003 = x3 := hx3.symm
    have r4 : x3.tmod 1000001 = x4 := hx4.symm
    rw [em] at hF hO
    clear hx1 hx2 hx3 hx4 em
    repeat' (first | refine dq1 ?_ | refine dqc ?_ | refine dqm ?_ | refine dqk rfl (sp_rFits_at _) ?_ | refine dqK rfl (sp_rFits_at _) ?_ | refine dqT ?_ | refine dqF ?_ | refine den_t rfl ?_ | refine den_f rfl ?_ | refine dqTn ?_ | refine dqFn ?_ | refine den_let1 (dx_mgetR (d := I 2) rfl rfl rfl) ?_ | refine den_let1 (dx_mgetR (d := I 1) rfl rfl rfl) ?_ | refine den_let1 (dx_mgetR (d := I 0) rfl rfl rfl) ?_ | refine den_ck (hold_inr rfl rfl (by omega) (by simp)) ?_ | refine den_let1 (den_idx rfl rfl (by omega) rfl rfl) ?_ | refine den_let1 (den_mk rfl rfl (by simp)) ?_ | refine den_let1 (den_len rfl rfl) ?_ | refine den_let1 (den_mul rfl rfl (by omega)) ?_ | refine den_let1 (den_remY rfl rfl (by decide) (by assumption)) ?_ | exact den_ret rfl (by rw [hF (by (repeat' (first | rfl | rw [pushM_none (by first | omega | (simp only [List.length_append, List.length_cons, List.length_nil] at *; omega))] | rw [pushM_some (by first | omega | (simp only [List.length_append, List.length_cons, List.length_nil] at *; omega)) (by omega) (by omega)] | rw [if_pos (by omega)] | rw [if_neg (by omega)] | simp only [Option.bind_some, Option.bind_none])))]; rfl) | exact den_ret rfl (by rw [hF]; rfl) | exact den_again rfl rfl (hO _ (by (repeat' (first | rfl | rw [pushM_none (by first | omega | (simp only [List.length_append, List.length_cons, List.length_nil] at *; omega))] | rw [pushM_some (by first | omega | (simp only [List.length_append, List.length_cons, List.length_nil] at *; omega)) (by omega) (by omega)] | rw [if_pos (by omega)] | rw [if_neg (by omega)] | simp only [Option.bind_some, Option.bind_none])))) | (refine den_loop rfl ?_; rw [iterT]) | (refine den_again rfl rfl ?_; rw [iterT]) | refine den_sp rfl (fun h => ?_) (fun h => ?_) | refine tZn (fun h => ?_) (fun h => ?_))
end Go.Proofs.YtajaacgchhmbjaaDoor
namespace Go.Proofs.YtajaacgchhmbjaaDoor
open Go.RowKit
set_option linter.unusedVariables false
set_option linter.unusedSimpArgs false
set_option maxRecDepth 100000
set_option maxHeartbeats 8000000
attribute [local irreducible] specOf spD ordP mixI bitI
theorem dx_mputR {sp : Nat → Spec} {E : Env} {vs l : Nat} {a ka : Atom} {ats : List Atom} {rows r : List (List Dt)} {n : Int} {ds : List Dt} (ha : a.val E = some (.l l rows)) (hk : ka.val E = some (I n)) (hv : vals E ats = some ds) (h : ds.length = vs ∧ l = 1 + vs) (hr : mputL n ds rows = r) : denX sp E (.mput vs a ka ats) = some (.l (1 + vs) r) := by
  simp only [denX, ha, hk, asI, hv]
  rw [if_pos h, hr]
attribute [local irreducible] den denX denXs holdXs
attribute [local irreducible] sp_rFits
theorem m_rRunOps : Meets Tryd.prog sp_rRunOps 18 ⟨[.one, .one, .one], [(false, [.fresh 3 1]), (false, [.scal])], false⟩ := by
  refine meets_fin (sp := (spsOf [(35, sp_rFits)])) (sigs := sigsA) (cut := [65]) (hints := [⟨5, [.r 6 3 1, .t 7, .r 1 3 1, .t 26, .z 21]⟩, ⟨49, [.r 6 3 1, .t 7, .r 1 3 1, .t 147, .z 65, .z 34, .z 40, .z 41, .z 44, .z 48, .z 49, .z 52, .z 54, .z 55, .z 58, .z 60, .z 61]⟩, ⟨44, [.t 16, .t 135]⟩]) (fns := [fnOf 38 Tryd.f38 [] []]) (dep := 2) (pool := 300) (fn := Tryd.f18) (t := t_rRunOps) (by kernel_rfl) (by kernel_rfl) (by kernel_rfl) ?_ ?_ ?_
  · exact (fnOk_cons (fn := Tryd.f38) (by kernel_rfl) (by kernel_rfl) (by kernel_rfl) (by kernel_rfl) (by kernel_rfl) fnOk_nil)
  · exact (sig_of (L := [(35, sp_rFits)]) ⟨sig_at rfl m_rFits, trivial⟩)
  · rintro ds rs - h
    obtain ⟨⟨l, s0, ht⟩, ⟨hc0, hs0⟩, rfl, rfl⟩ := spD_some h
    clear h
    simp only at hc0 hs0
    refine ⟨⟨l.length + 6, ?_⟩, ?_⟩
    · show den _ _ t_rRunOps [.l 2 (l.map eOp), .l 1 (s0.map eInt), I ht] [] = ret (ranR (runM ht s0 l))
      obtain ⟨hl16, hall⟩ := opsAll hc0
      have hs0l := hs0.1
      unfold t_rRunOps
      refine den_let1 (den_mk (r := []) rfl rfl (by simp)) ?_
      refine den_let1 (dx_app (l := ([] : List Int)) (l' := s0) (f := eInt) rfl rfl (by simp; omega)) ?_
      refine den_let1 (d := .l 2 [[I 2, I 1]]) (dx_mputR rfl rfl rfl ⟨rfl, rfl⟩ rfl) ?_
      refine den_let1 (d := .l 2 [[I 2, I 1], [I 3, I 2]]) (dx_mputR rfl rfl rfl ⟨rfl, rfl⟩ rfl) ?_
      refine den_let1 (d := .l 2 [[I 2, I 1], [I 3, I 2], [I 4, I 1]]) (dx_mputR rfl rfl rfl ⟨rfl, rfl⟩ rfl) ?_
      refine den_let1 (d := .l 2 [[I 2, I 1], [I 3, I 2], [I 4, I 1], [I 5, I 2]]) (dx_mputR rfl rfl rfl ⟨rfl, rfl⟩ rfl) ?_
      refine den_let1 (d := .l 2 [[I 2, I 1], [I 3, I 2], [I 4, I 1], [I 5, I 2], [I 6, I 2]]) (dx_mputR rfl rfl rfl ⟨rfl, rfl⟩ rfl) ?_
      refine den_let1 (d := .l 2 [[I 2, I 1], [I 3, I 2], [I 4, I 1], [I 5, I 2], [I 6, I 2], [I 7, I 2]]) (dx_mputR rfl rfl rfl ⟨rfl, rfl⟩ rfl) ?_
      refine den_let1 (d := .l 2 [[I 2, I 1], [I 3, I 2], [I 4, I 1], [I 5, I 2], [I 6, I 2], [I 7, I 2], [I 8, I 2]]) (dx_mputR rfl rfl rfl ⟨rfl, rfl⟩ rfl) ?_
      refine den_let1 (d := .l 2 [[I 2, I 1], [I 3, I 2], [I 4, I 1], [I 5, I 2], [I 6, I 2], [I 7, I 2], [I 8, I 2], [I 9, I 1]]) (dx_mputR rfl rfl rfl ⟨rfl, rfl⟩ rfl) ?_
      refine den_let1 (d := .l 2 [[I 2, I 1], [I 3, I 2], [I 4, I 1], [I 5, I 2], [I 6, I 2], [I 7, I 2], [I 8, I 2], [I 9, I 1], [I 10, I 2]]) (dx_mputR rfl rfl rfl ⟨rfl, rfl⟩ rfl) ?_
      refine den_let1 (d := .l 2 [[I 2, I 1], [I 3, I 2], [I 4, I 1], [I 5, I 2], [I 6, I 2], [I 7, I 2], [I 8, I 2], [I 9, I 1], [I 10, I 2], [I 11, I 1]]) (dx_mputR rfl rfl rfl ⟨rfl, rfl⟩ rfl) ?_
      refine den_let1 (d := .l 2 [[I 2, I 1], [I 3, I 2], [I 4, I 1], [I 5, I 2], [I 6, I 2], [I 7, I 2], [I 8, I 2], [I 9, I 1], [I 10, I 2], [I 11, I 1], [I 13, I 1]]) (dx_mputR rfl rfl rfl ⟨rfl, rfl⟩ rfl) ?_
      repeat' (first | refine dq1 ?_ | refine dqc ?_ | refine dqm ?_ | exact den_ret rfl rfl | refine tR (fun h => ?_) fun h => ?_ | refine tB (fun h => ?_) fun h => ?_ | refine tC (fun h => ?_) fun h => ?_ | refine tN (fun h => ?_) fun h => ?_ | refine tF (fun h => ?_) fun h => ?_ | refine tG (fun h => ?_) fun h => ?_ | refine tP (fun h => ?_) fun h => ?_ | refine tQ (fun h => ?_) fun h => ?_ | refine tA (fun h => ?_) fun h => ?_ | refine tO (fun h => ?_) fun h => ?_ | refine tU (fun h => ?_) fun h => ?_ | refine tV (fun h => ?_) fun h => ?_ | refine dqT ?_ | refine dqF ?_ | refine den_t rfl ?_ | refine den_f rfl ?_ | refine dqTn ?_ | refine dqFn ?_)
      (refine den_range (fun (s : List Int) k => [.l 1 (([] : List Int).map eInt), .b false, .l 1 (s.map eInt), I k]) (fun (s : List Int) _ (r : List Op) => ranR (runM ht s r)) (fun s _ => StackOK s) s0 l ?_ ?_ ?_ ?_ ?_; rfl; exact hs0; omega)
      · rintro s k ⟨kd, nn⟩ r hx hd hk hs again' hag
        have hob := opBad_ok' (hall _ (List.mem_of_getElem? hx))
        simp only at hob
        have hF : stepM ht s ⟨kd, nn⟩ = none → ranR (runM ht s (⟨kd, nn⟩ :: r)) = ([], false) := fun e => by rw [runM, e]; rfl
        have hO : ∀ s', stepM ht s ⟨kd, nn⟩ = some s' → again' [.l 1 (([] : List Int).map eInt), .b false, .l 1 (s'.map eInt), I ((k : Int) + 1)] = ret (ranR (runM ht s (⟨kd, nn⟩ :: r))) := fun s' e => by rw [runM, e]; exact hag s' (stepM_ok hs e)
        have key : ∀ kd, 1 ≤ kd → kd ≤ 13 → RStep kd := fun kd h0 h1 => by
          have hk13 : kd = 1 ∨ kd = 2 ∨ kd = 3 ∨ kd = 4 ∨ kd = 5 ∨ kd = 6 ∨ kd = 7 ∨ kd = 8 ∨ kd = 9 ∨ kd = 10 ∨ kd = 11 ∨ kd = 12 ∨ kd = 13 := by omega
          rcases hk13 with rfl | rfl | rfl | rfl | rfl | rfl | rfl | rfl | rfl | rfl | rfl | rfl | rfl
          all_goals first | exact rstep_1 | exact rstep_2 | exact rstep_3 | exact rstep_4 | exact rstep_5 | exact rstep_6 | exact rstep_7 | exact rstep_8 | exact rstep_9 | exact rstep_10 | exact rstep_11 | exact rstep_12 | exact rstep_13
        exact key kd hob.1 hob.2 l s0 s ht nn k _ again' hl16 hs.1 hs hk hx hF hO
      · rintro s hs again'
        repeat' (first | refine dq1 ?_ | refine dqc ?_ | refine dqm ?_ | exact den_ret rfl rfl | refine tR (fun h => ?_) fun h => ?_ | refine tB (fun h => ?_) fun h => ?_ | refine tC (fun h => ?_) fun h => ?_ | refine tN (fun h => ?_) fun h => ?_ | refine tF (fun h => ?_) fun h => ?_ | refine tG (fun h => ?_) fun h => ?_ | refine tP (fun h => ?_) fun h => ?_ | refine tQ (fun h => ?_) fun h => ?_ | refine tA (fun h => ?_) fun h => ?_ | refine tO (fun h => ?_) fun h => ?_ | refine tU (fun h => ?_) fun h => ?_ | refine tV (fun h => ?_) fun h => ?_ | refine dqT ?_ | refine dqF ?_ | refine den_t rfl ?_ | refine den_f rfl ?_ | refine dqTn ?_ | refine dqFn ?_)
    · intro i d hi hd
      match i, hi, hd with
      | 0, hi, _ => simp [cfsOf] at hi
      | 1, _, hd => simp only [Enc.e, eInt, eBool, List.cons_append, List.nil_append, List.getElem?_cons_zero, List.getElem?_cons_succ, Option.some.injEq] at hd; subst hd; rfl
      | i + 2, hi, hd => simp [cfsOf] at hi
noncomputable def sp_rOpened : Spec := spD (fun x : List Op × List Op × Int => opsCheck x.1 = 0 ∧ opsCheck x.2.1 = 0 ∧ 0 ≤ x.2.2 ∧ x.2.2 ≤ 1000) fun x => (openOf x.1 x.2.1 x.2.2).1
theorem sp_rOpened_at (l k : List Op) (h : Int) (hl : opsCheck l = 0) (hk : opsCheck k = 0) (h0 : 0 ≤ h ∧ h ≤ 1000) : sp_rOpened [.l 2 (l.map eOp), .l 2 (k.map eOp), I h] = some [.b (openOf l k h).1] := spD_at (p := fun x : List Op × List Op × Int => opsCheck x.1 = 0 ∧ opsCheck x.2.1 = 0 ∧ 0 ≤ x.2.2 ∧ x.2.2 ≤ 1000) (f := fun x : List Op × List Op × Int => (openOf x.1 x.2.1 x.2.2).1) (l, k, h) ⟨hl, hk, h0⟩
attribute [local irreducible] runM openOf
theorem m_rOpened : Meets Tryd.prog sp_rOpened 15 ⟨[.one, .one, .one], [(false, [.scal])], true⟩ := by
  refine meets_fast (sp := (spsOf [(36, sp_rRunOps)])) (sigs := sigsA) (cut := []) (hints := []) (fn := Tryd.f15) (t := t_rOpened) (by kernel_rfl) (by kernel_rfl) (by kernel_rfl) ?_ ?_
  · exact (sig_of (L := [(36, sp_rRunOps)]) ⟨sig_at rfl m_rRunOps, trivial⟩)
  · rintro ds rs - h
    obtain ⟨⟨l, k, ht⟩, ⟨hl, hk, h0, h1⟩, rfl, rfl⟩ := spD_some h
    clear h
    simp only at hl hk h0 h1
    refine ⟨⟨1, ?_⟩, scalOk_1 rfl⟩
    show den _ _ t_rOpened [.l 2 (l.map eOp), .l 2 (k.map eOp), I ht] [] = ret (openOf l k ht).1
    rw [openOf_fin hl hk h0 h1]
    have a1 := sp_rRunOps_at k [] ht hk stackOK_nil
    have hsk : ∀ s, runM ht [] k = some s → StackOK s := fun s h => runM_ok' stackOK_nil h
    unfold t_rOpened
    generalize runM ht [] k = r at *
    cases r with
    | none =>
      simp only [ranR, Option.bind_none, finOf] at a1 ⊢
      repeat' (first | refine dq1 ?_ | refine dqc ?_ | refine dqm ?_ | refine dqk rfl (a1) ?_ | refine dqK rfl (a1) ?_ | exact den_ret rfl rfl | refine tR (fun h => ?_) fun h => ?_ | refine tB (fun h => ?_) fun h => ?_ | refine tC (fun h => ?_) fun h => ?_ | refine tN (fun h => ?_) fun h => ?_ | refine tF (fun h => ?_) fun h => ?_ | refine tG (fun h => ?_) fun h => ?_ | refine tP (fun h => ?_) fun h => ?_ | refine tQ (fun h => ?_) fun h => ?_ | refine tA (fun h => ?_) fun h => ?_ | refine tO (fun h => ?_) fun h => ?_ | refine tU (fun h => ?_) fun h => ?_ | refine tV (fun h => ?_) fun h => ?_ | refine dqT ?_ | refine dqF ?_ | refine den_t rfl ?_ | refine den_f rfl ?_ | refine dqTn ?_ | refine dqFn ?_)
    | some s =>
      have hs := hsk s rfl
      have a2 := sp_rRunOps_at l s ht hl hs
      simp only [Option.bind_some]
      generalize runM ht s l = q at *
      rcases q with _ | ⟨_ | ⟨x, _ | ⟨y, t⟩⟩⟩
      all_goals
        simp only [ranR, finOf] at a1 a2 ⊢
        try have hl0 : ¬ (((([] : List Int).length : Nat) : Int) = 1) := by simp
        try have hl1 : ((([x] : List Int).length : Nat) : Int) = 1 := rfl
        try have hl2 : ¬ ((((x :: y :: t).length : Nat) : Int) = 1) := by simp only [List.length_cons]; omega
        try have hx0 : ([x] : List Int)[(0 : Int).toNat]? = some x := rfl
        repeat' (first | refine dq1 ?_ | refine dqc ?_ | refine dqm ?_ | refine dqk rfl (a1) ?_ | refine dqK rfl (a1) ?_ | refine dqk rfl (a2) ?_ | refine dqK rfl (a2) ?_ | exact den_ret rfl rfl | refine tR (fun h => ?_) fun h => ?_ | refine tB (fun h => ?_) fun h => ?_ | refine tC (fun h => ?_) fun h => ?_ | refine tN (fun h => ?_) fun h => ?_ | refine tF (fun h => ?_) fun h => ?_ | refine tG (fun h => ?_) fun h => ?_ | refine tP (fun h => ?_) fun h => ?_ | refine tQ (fun h => ?_) fun h => ?_ | refine tA (fun h => ?_) fun h => ?_ | refine tO (fun h => ?_) fun h => ?_ | refine tU (fun h => ?_) fun h => ?_ | refine tV (fun h => ?_) fun h => ?_ | refine dqT ?_ | refine dqF ?_ | refine den_t rfl ?_ | refine den_f rfl ?_ | refine dqTn ?_ | refine dqFn ?_)
end Go.Proofs.YtajaacgchhmbjaaDoor
namespace Go.Proofs.YtajaacgchhmbjaaDoor
open Go.RowKit
set_option linter.unusedVariables false
set_option linter.unusedSimpArgs false
noncomputable def sp_eqInts : Spec := spD (fun _ : List Int × List Int => True) fun x => decide (x.1 = x.2)
theorem sp_eqInts_at (a b : List Int) : sp_eqInts [.l 1 (a.map eInt), .l 1 (b.map eInt)] = some [.b (decide (a = b))] := spD_at (f := fun x : List Int × List Int => decide (x.1 = x.2)) (a, b) trivial
theorem m_eqInts : Meets Tryd.prog sp_eqInts 19 ⟨[.one, .one], [(false, [.scal])], true⟩ :=
  meets_libB rfl (en_of (fn := Tryd.f19) (by kernel_rfl) (by kernel_rfl) (by kernel_rfl)) fun ⟨a, b⟩ _ W F us hF h => by
    obtain ⟨v, us, rfl, h1, h⟩ := pks_one h
    obtain ⟨v2, us, rfl, h2, h⟩ := pks_one h
    obtain rfl := pks_nil h
    obtain ⟨A, n, c, rfl, k1⟩ := rep_rds she_int h1
    obtain ⟨A2, n2, c2, rfl, k2⟩ := rep_rds she_int h2
    refine (equal_int a b A A2 n c n2 c2 W F F k1 k2).mono ?_
    rintro r W' ⟨rfl, m, rfl⟩
    exact ⟨rfl, below_drewN (Below.refl _ _) m⟩
end Go.Proofs.YtajaacgchhmbjaaDoor
namespace Go.Proofs.YtajaacgchhmbjaaDoor
open Go.RowKit
set_option linter.unusedVariables false
set_option linter.unusedSimpArgs false
set_option maxRecDepth 100000
set_option maxHeartbeats 4000000
attribute [local irreducible] specOf spD ordP
end Go.Proofs.YtajaacgchhmbjaaDoor
namespace Go.Proofs.YtajaacgchhmbjaaDoor
open Go.RowKit
set_option linter.unusedVariables false
set_option linter.unusedSimpArgs false
set_option maxRecDepth 100000
set_option maxHeartbeats 4000000
attribute [local irreducible] specOf spD ordP
end Go.Proofs.YtajaacgchhmbjaaDoor
namespace Go.Proofs.YtajaacgchhmbjaaDoor
open Go.RowKit
set_option linter.unusedVariables false
set_option linter.unusedSimpArgs false
set_option maxRecDepth 100000
set_option maxHeartbeats 4000000
noncomputable def sp_rCheckOps : Spec := spD (fun _ : List Op => True) fun l => opsCheck l
theorem sp_rCheckOps_at (l : List Op) : sp_rCheckOps [.l 2 (l.map eOp)] = some [I (opsCheck l)] := spD_at (f := fun l : List Op => opsCheck l) l trivial
theorem m_rCheckOps : Meets Tryd.prog sp_rCheckOps 12 ⟨[.one], [(false, [.scal])], true⟩ :=
  meets_scal2 (e := fun x : { x : List Op // True } => Enc.e x.1) (d := fun x => I (opsCheck x.1)) rfl (en_of (fn := Tryd.f12) (by kernel_rfl) (by kernel_rfl) (by kernel_rfl)) (fun _ => rfl) fun x W F us hF h => by
    obtain ⟨v, us, rfl, h1, h⟩ := pks_one h
    obtain rfl := pks_nil h
    obtain ⟨A, n, c, rfl, k1⟩ := rep_rds she_op h1
    exact (refOps_any x.1 A n c W F k1 hF).mono fun e w' h => ⟨_, h.1, h.2, .i _ _ (wrap_i64 (er_ops x.1).i64)⟩
attribute [local irreducible] specOf spD ordP
end Go.Proofs.YtajaacgchhmbjaaDoor
namespace Go.Proofs.YtajaacgchhmbjaaDoor
open Go.RowKit
open Go.Lib (itoa)
set_option linter.unusedVariables false
set_option linter.unusedSimpArgs false
set_option maxRecDepth 100000
set_option maxHeartbeats 8000000
theorem openOf_high {l k : List Op} {h : Int} (hl : opsCheck l = 0) (hk : opsCheck k = 0) (hb : h < 0 ∨ 1000 < h) : openOf l k h = (false, 3) := by
  have hr : runOf k [] h = ([], 3) := by
    unfold runOf
    rw [if_neg (fun e => e hk), if_pos (by rcases hb with hb | hb <;> simp [hb])]
  unfold openOf
  rw [if_neg (fun e => e hl), if_neg (fun e => e hk), hr]
  rfl
theorem openOf_l {l k : List Op} {h : Int} (hl : opsCheck l ≠ 0) : openOf l k h = (false, opsCheck l) := by unfold openOf; rw [if_pos hl]
theorem openOf_k {l k : List Op} {h : Int} (hl : opsCheck l = 0) (hk : opsCheck k ≠ 0) : openOf l k h = (false, opsCheck k) := by unfold openOf; rw [if_neg (fun e => e hl), if_pos hk]
theorem runOf_l {l : List Op} {s : List Int} {h : Int} (hl : opsCheck l ≠ 0) : runOf l s h = ([], opsCheck l) := by unfold runOf; rw [if_pos hl]
theorem runOf_high {l : List Op} {s : List Int} {h : Int} (hl : opsCheck l = 0) (hb : h < 0 ∨ 1000 < h ∨ 16 < (s.length : Int)) : runOf l s h = ([], 3) := by unfold runOf; rw [if_neg (fun e => e hl), if_pos hb]
theorem runOf_unfit {l : List Op} {s : List Int} {h : Int} {x : Int} (hl : opsCheck l = 0) (hx : x ∈ s) (hb : ¬ Fits x) : runOf l s h = ([], 3) := by
  unfold runOf
  rw [if_neg (fun e => e hl)]
  split
  · rfl
  · rw [if_neg (fun e => hb (e x hx))]
theorem fits_bd {x : Int} (h : Fits x) : -1000000 ≤ x ∧ x ≤ 1000000 := h
theorem fits_not {x : Int} (h : ¬ Fits x) : x < -1000000 ∨ 1000000 < x := by unfold Fits at h; omega
theorem all_take' {α : Type} {l : List α} {P : α → Prop} {k : Nat} {x : α} (h : ∀ y ∈ l.take k, P y) (hx : l[k]? = some x) (hp : P x) : ∀ y ∈ l.take (k + 1), P y := by
  intro y hy
  rw [List.take_add_one, hx] at hy
  rcases List.mem_append.1 hy with hy | hy
  · exact h y hy
  · simp only [Option.toList_some, List.mem_singleton] at hy; subst hy; exact hp
attribute [local irreducible] specOf spD ordP itoa opsCheck openOf runOf runM Fits
noncomputable def sp_lLockRun : Spec := spD (fun _ : List Op × List Int × Int × List Op => True) fun _ => true
attribute [local irreducible] den denX denXs holdXs
def t_lLockRun_0 : T :=
  .lets [.bin .eql (.v 5) (.c (.i .i64 3))] [] (.ite (.v 20) (.lets [.len (.v 4)] [] (.lets [.bin .eql (.v 21) (.c (.i .i64 0))] [] (.ret [.v 22]))) (.ret [.c (.b false)]))
def t_lLockRun_1 : T :=
  .lets [.bin .eql (.v 5) (.c (.i .i64 3))] [] (.ite (.v 21) (.lets [.len (.v 4)] [] (.lets [.bin .eql (.v 22) (.c (.i .i64 0))] [] (.ret [.v 23]))) (.ret [.c (.b false)]))
def t_lLockRun_2 : T :=
  .lets [.bin .eql (.v 5) (.c (.i .i64 3))] [] (.ite (.v 23) (.lets [.len (.v 4)] [] (.lets [.bin .eql (.v 24) (.c (.i .i64 0))] [] (.ret [.v 25]))) (.ret [.c (.b false)]))
def t_lLockRun_3 : T :=
  .lets [.bin .eql (.v 5) (.c (.i .i64 3))] [] (.ite (.v 30) (.lets [.len (.v 4)] [] (.lets [.bin .eql (.v 31) (.c (.i .i64 0))] [] (.ret [.v 32]))) (.ret [.c (.b false)]))
def t_lLockRun_4 : T :=
  .lets [.bin .eql (.v 5) (.c (.i .i64 8))] [] (.ite (.v 34) (.lets [.len (.v 4)] [] (.lets [.bin .eql (.v 35) (.c (.i .i64 0))] [] (.ret [.v 36]))) (.ret [.c (.b false)]))
def t_lLockRun_5 : T :=
  .ite (.v 33) t_lLockRun_4 (.lets [.bin .eql (.v 5) (.c (.i .i64 0))] [] (.ite (.v 34) (.lets [.call 51 [.v 4, .v 31] 0] [] (.ret [.v 35])) (.ret [.c (.b false)])))
def t_lLockRun_6 : T :=
  .ite (.v 30) (.lets [.bin .eql (.v 5) (.v 8)] [] (.ite (.v 31) (.lets [.len (.v 4)] [] (.lets [.bin .eql (.v 32) (.c (.i .i64 0))] [] (.ret [.v 33]))) (.ret [.c (.b false)])))
  (.lets [.call 36 [.v 0, .v 1, .v 2] 0, .call 36 [.v 0, .v 1, .v 2] 1] [] (.lets [.not (.v 32)] [] t_lLockRun_5))
def t_lLockRun_7 : T :=
  .lets [.bin .eql (.v 5) (.c (.i .i64 3))] [] (.ite (.v 31) (.lets [.len (.v 4)] [] (.lets [.bin .eql (.v 32) (.c (.i .i64 0))] [] (.ret [.v 33]))) (.ret [.c (.b false)]))
def t_lLockRun_8 : T :=
  .lets [.bin .eql (.v 5) (.c (.i .i64 8))] [] (.ite (.v 35) (.lets [.len (.v 4)] [] (.lets [.bin .eql (.v 36) (.c (.i .i64 0))] [] (.ret [.v 37]))) (.ret [.c (.b false)]))
def t_lLockRun_9 : T :=
  .ite (.v 34) t_lLockRun_8 (.lets [.bin .eql (.v 5) (.c (.i .i64 0))] [] (.ite (.v 35) (.lets [.call 51 [.v 4, .v 32] 0] [] (.ret [.v 36])) (.ret [.c (.b false)])))
def t_lLockRun_10 : T :=
  .ite (.v 31) (.lets [.bin .eql (.v 5) (.v 8)] [] (.ite (.v 32) (.lets [.len (.v 4)] [] (.lets [.bin .eql (.v 33) (.c (.i .i64 0))] [] (.ret [.v 34]))) (.ret [.c (.b false)])))
  (.lets [.call 36 [.v 0, .v 1, .v 2] 0, .call 36 [.v 0, .v 1, .v 2] 1] [] (.lets [.not (.v 33)] [] t_lLockRun_9))
def t_lLockRun_11 : T :=
  .ite (.v 29) (.lets [.bin .geq (.v 25) (.c (.i .i64 0))] [] (.ite (.v 30) t_lLockRun_7 (.lets [.bin .neq (.v 8) (.c (.i .i64 0))] [] t_lLockRun_10))) (.lets [.bin .add (.v 25) (.c
  (.i .i64 1))] [] (.again 0 [.v 24, .v 30]))
def t_lLockRun_12 : T :=
  .ite (.v 28) (.lets [.bin .geq (.v 25) (.c (.i .i64 0))] [] (.ite (.v 29) t_lLockRun_3 (.lets [.bin .neq (.v 8) (.c (.i .i64 0))] [] t_lLockRun_6))) (.lets [.bin .gtr (.v 27) (.c
  (.i .i64 1000000))] [] t_lLockRun_11)
def t_lLockRun_13 : T :=
  .lets [.bin .eql (.v 5) (.c (.i .i64 3))] [] (.ite (.v 28) (.lets [.len (.v 4)] [] (.lets [.bin .eql (.v 29) (.c (.i .i64 0))] [] (.ret [.v 30]))) (.ret [.c (.b false)]))
def t_lLockRun_14 : T :=
  .lets [.bin .eql (.v 5) (.c (.i .i64 8))] [] (.ite (.v 32) (.lets [.len (.v 4)] [] (.lets [.bin .eql (.v 33) (.c (.i .i64 0))] [] (.ret [.v 34]))) (.ret [.c (.b false)]))
def t_lLockRun_15 : T :=
  .ite (.v 31) t_lLockRun_14 (.lets [.bin .eql (.v 5) (.c (.i .i64 0))] [] (.ite (.v 32) (.lets [.call 51 [.v 4, .v 29] 0] [] (.ret [.v 33])) (.ret [.c (.b false)])))
def t_lLockRun_16 : T :=
  .ite (.v 28) (.lets [.bin .eql (.v 5) (.v 8)] [] (.ite (.v 29) (.lets [.len (.v 4)] [] (.lets [.bin .eql (.v 30) (.c (.i .i64 0))] [] (.ret [.v 31]))) (.ret [.c (.b false)])))
  (.lets [.call 36 [.v 0, .v 1, .v 2] 0, .call 36 [.v 0, .v 1, .v 2] 1] [] (.lets [.not (.v 30)] [] t_lLockRun_15))
def t_lLockRun_17 : T :=
  .ite (.v 26) (.lets [] [.inr 1 (.v 1) (.v 25)] (.lets [.idx (.v 1) (.v 25) 0] [] (.lets [.bin .lss (.v 27) (.c (.i .i64 (-1000000)))] [] t_lLockRun_12))) (.lets [.bin .geq (.c (.i
  .i64 (-1))) (.c (.i .i64 0))] [] (.ite (.v 27) t_lLockRun_13 (.lets [.bin .neq (.v 8) (.c (.i .i64 0))] [] t_lLockRun_16)))
def t_lLockRun_18 : T :=
  .lets [.bin .gtr (.v 21) (.c (.i .i64 16))] [] (.ite (.v 22) t_lLockRun_2 (.lets [.len (.v 1)] [] (.loop [.c (.i .i64 0), .c (.i .i64 0)] (.lets [.bin .lss (.v 25) (.v 23)] []
  t_lLockRun_17))))
def t_lLockRun_19 : T :=
  .lets [.bin .lss (.v 2) (.c (.i .i64 0))] [] (.ite (.v 19) t_lLockRun_0 (.lets [.bin .gtr (.v 2) (.c (.i .i64 1000))] [] (.ite (.v 20) t_lLockRun_1 (.lets [.len (.v 1)] []
  t_lLockRun_18))))
def t_lLockRun_20 : T :=
  .lets [.bin .eql (.v 5) (.c (.i .i64 8))] [] (.ite (.v 23) (.lets [.len (.v 4)] [] (.lets [.bin .eql (.v 24) (.c (.i .i64 0))] [] (.ret [.v 25]))) (.ret [.c (.b false)]))
def t_lLockRun_21 : T :=
  .ite (.v 22) t_lLockRun_20 (.lets [.bin .eql (.v 5) (.c (.i .i64 0))] [] (.ite (.v 23) (.lets [.call 51 [.v 4, .v 20] 0] [] (.ret [.v 24])) (.ret [.c (.b false)])))
def t_lLockRun_22 : T :=
  .ite (.v 19) (.lets [.bin .eql (.v 5) (.v 8)] [] (.ite (.v 20) (.lets [.len (.v 4)] [] (.lets [.bin .eql (.v 21) (.c (.i .i64 0))] [] (.ret [.v 22]))) (.ret [.c (.b false)])))
  (.lets [.call 36 [.v 0, .v 1, .v 2] 0, .call 36 [.v 0, .v 1, .v 2] 1] [] (.lets [.not (.v 21)] [] t_lLockRun_21))
def t_lLockRun_23 : T :=
  .ite (.v 6) (.ret [.c (.b false)]) (.lets [.bin .eql (.v 8) (.c (.i .i64 0))] [] (.ite (.v 18) t_lLockRun_19 (.lets [.bin .neq (.v 8) (.c (.i .i64 0))] [] t_lLockRun_22)))
def t_lLockRun_24 : T :=
  .lets [.bin .eql (.v 5) (.c (.i .i64 3))] [] (.ite (.v 22) (.lets [.len (.v 4)] [] (.lets [.bin .eql (.v 23) (.c (.i .i64 0))] [] (.ret [.v 24]))) (.ret [.c (.b false)]))
def t_lLockRun_25 : T :=
  .lets [.bin .eql (.v 5) (.c (.i .i64 3))] [] (.ite (.v 24) (.lets [.len (.v 4)] [] (.lets [.bin .eql (.v 25) (.c (.i .i64 0))] [] (.ret [.v 26]))) (.ret [.c (.b false)]))
def t_lLockRun_26 : T :=
  .lets [.bin .eql (.v 5) (.c (.i .i64 3))] [] (.ite (.v 32) (.lets [.len (.v 4)] [] (.lets [.bin .eql (.v 33) (.c (.i .i64 0))] [] (.ret [.v 34]))) (.ret [.c (.b false)]))
def t_lLockRun_27 : T :=
  .lets [.bin .eql (.v 5) (.c (.i .i64 8))] [] (.ite (.v 36) (.lets [.len (.v 4)] [] (.lets [.bin .eql (.v 37) (.c (.i .i64 0))] [] (.ret [.v 38]))) (.ret [.c (.b false)]))
def t_lLockRun_28 : T :=
  .ite (.v 35) t_lLockRun_27 (.lets [.bin .eql (.v 5) (.c (.i .i64 0))] [] (.ite (.v 36) (.lets [.call 51 [.v 4, .v 33] 0] [] (.ret [.v 37])) (.ret [.c (.b false)])))
def t_lLockRun_29 : T :=
  .ite (.v 32) (.lets [.bin .eql (.v 5) (.v 8)] [] (.ite (.v 33) (.lets [.len (.v 4)] [] (.lets [.bin .eql (.v 34) (.c (.i .i64 0))] [] (.ret [.v 35]))) (.ret [.c (.b false)])))
  (.lets [.call 36 [.v 0, .v 1, .v 2] 0, .call 36 [.v 0, .v 1, .v 2] 1] [] (.lets [.not (.v 34)] [] t_lLockRun_28))
def t_lLockRun_30 : T :=
  .ite (.v 30) (.lets [.bin .geq (.v 26) (.c (.i .i64 0))] [] (.ite (.v 31) t_lLockRun_26 (.lets [.bin .neq (.v 8) (.c (.i .i64 0))] [] t_lLockRun_29))) (.lets [.bin .add (.v 26) (.c
  (.i .i64 1))] [] (.again 0 [.v 25, .v 31]))
def t_lLockRun_31 : T :=
  .ite (.v 29) (.lets [.bin .geq (.v 26) (.c (.i .i64 0))] [] (.ite (.v 30) t_lLockRun_7 (.lets [.bin .neq (.v 8) (.c (.i .i64 0))] [] t_lLockRun_10))) (.lets [.bin .gtr (.v 28) (.c
  (.i .i64 1000000))] [] t_lLockRun_30)
def t_lLockRun_32 : T :=
  .lets [.bin .eql (.v 5) (.c (.i .i64 3))] [] (.ite (.v 29) (.lets [.len (.v 4)] [] (.lets [.bin .eql (.v 30) (.c (.i .i64 0))] [] (.ret [.v 31]))) (.ret [.c (.b false)]))
def t_lLockRun_33 : T :=
  .lets [.bin .eql (.v 5) (.c (.i .i64 8))] [] (.ite (.v 33) (.lets [.len (.v 4)] [] (.lets [.bin .eql (.v 34) (.c (.i .i64 0))] [] (.ret [.v 35]))) (.ret [.c (.b false)]))
def t_lLockRun_34 : T :=
  .ite (.v 32) t_lLockRun_33 (.lets [.bin .eql (.v 5) (.c (.i .i64 0))] [] (.ite (.v 33) (.lets [.call 51 [.v 4, .v 30] 0] [] (.ret [.v 34])) (.ret [.c (.b false)])))
def t_lLockRun_35 : T :=
  .ite (.v 29) (.lets [.bin .eql (.v 5) (.v 8)] [] (.ite (.v 30) (.lets [.len (.v 4)] [] (.lets [.bin .eql (.v 31) (.c (.i .i64 0))] [] (.ret [.v 32]))) (.ret [.c (.b false)])))
  (.lets [.call 36 [.v 0, .v 1, .v 2] 0, .call 36 [.v 0, .v 1, .v 2] 1] [] (.lets [.not (.v 31)] [] t_lLockRun_34))
def t_lLockRun_36 : T :=
  .ite (.v 27) (.lets [] [.inr 1 (.v 1) (.v 26)] (.lets [.idx (.v 1) (.v 26) 0] [] (.lets [.bin .lss (.v 28) (.c (.i .i64 (-1000000)))] [] t_lLockRun_31))) (.lets [.bin .geq (.c (.i
  .i64 (-1))) (.c (.i .i64 0))] [] (.ite (.v 28) t_lLockRun_32 (.lets [.bin .neq (.v 8) (.c (.i .i64 0))] [] t_lLockRun_35)))
def t_lLockRun_37 : T :=
  .lets [.bin .gtr (.v 22) (.c (.i .i64 16))] [] (.ite (.v 23) t_lLockRun_25 (.lets [.len (.v 1)] [] (.loop [.c (.i .i64 0), .c (.i .i64 0)] (.lets [.bin .lss (.v 26) (.v 24)] []
  t_lLockRun_36))))
def t_lLockRun_38 : T :=
  .lets [.bin .lss (.v 2) (.c (.i .i64 0))] [] (.ite (.v 20) t_lLockRun_1 (.lets [.bin .gtr (.v 2) (.c (.i .i64 1000))] [] (.ite (.v 21) t_lLockRun_24 (.lets [.len (.v 1)] []
  t_lLockRun_37))))
def t_lLockRun_39 : T :=
  .lets [.bin .eql (.v 5) (.c (.i .i64 8))] [] (.ite (.v 24) (.lets [.len (.v 4)] [] (.lets [.bin .eql (.v 25) (.c (.i .i64 0))] [] (.ret [.v 26]))) (.ret [.c (.b false)]))
def t_lLockRun_40 : T :=
  .ite (.v 23) t_lLockRun_39 (.lets [.bin .eql (.v 5) (.c (.i .i64 0))] [] (.ite (.v 24) (.lets [.call 51 [.v 4, .v 21] 0] [] (.ret [.v 25])) (.ret [.c (.b false)])))
def t_lLockRun_41 : T :=
  .ite (.v 20) (.lets [.bin .eql (.v 5) (.v 8)] [] (.ite (.v 21) (.lets [.len (.v 4)] [] (.lets [.bin .eql (.v 22) (.c (.i .i64 0))] [] (.ret [.v 23]))) (.ret [.c (.b false)])))
  (.lets [.call 36 [.v 0, .v 1, .v 2] 0, .call 36 [.v 0, .v 1, .v 2] 1] [] (.lets [.not (.v 22)] [] t_lLockRun_40))
def t_lLockRun_42 : T :=
  .ite (.v 6) (.ret [.c (.b false)]) (.lets [.bin .eql (.v 8) (.c (.i .i64 0))] [] (.ite (.v 19) t_lLockRun_38 (.lets [.bin .neq (.v 8) (.c (.i .i64 0))] [] t_lLockRun_41)))
def t_lLockRun_43 : T :=
  .lets [.bin .eql (.v 5) (.c (.i .i64 3))] [] (.ite (.v 25) (.lets [.len (.v 4)] [] (.lets [.bin .eql (.v 26) (.c (.i .i64 0))] [] (.ret [.v 27]))) (.ret [.c (.b false)]))
def t_lLockRun_44 : T :=
  .lets [.bin .eql (.v 5) (.c (.i .i64 3))] [] (.ite (.v 26) (.lets [.len (.v 4)] [] (.lets [.bin .eql (.v 27) (.c (.i .i64 0))] [] (.ret [.v 28]))) (.ret [.c (.b false)]))
def t_lLockRun_45 : T :=
  .lets [.bin .eql (.v 5) (.c (.i .i64 3))] [] (.ite (.v 35) (.lets [.len (.v 4)] [] (.lets [.bin .eql (.v 36) (.c (.i .i64 0))] [] (.ret [.v 37]))) (.ret [.c (.b false)]))
def t_lLockRun_46 : T :=
  .lets [.bin .eql (.v 5) (.c (.i .i64 8))] [] (.ite (.v 39) (.lets [.len (.v 4)] [] (.lets [.bin .eql (.v 40) (.c (.i .i64 0))] [] (.ret [.v 41]))) (.ret [.c (.b false)]))
def t_lLockRun_47 : T :=
  .ite (.v 38) t_lLockRun_46 (.lets [.bin .eql (.v 5) (.c (.i .i64 0))] [] (.ite (.v 39) (.lets [.call 51 [.v 4, .v 36] 0] [] (.ret [.v 40])) (.ret [.c (.b false)])))
def t_lLockRun_48 : T :=
  .ite (.v 35) (.lets [.bin .eql (.v 5) (.v 8)] [] (.ite (.v 36) (.lets [.len (.v 4)] [] (.lets [.bin .eql (.v 37) (.c (.i .i64 0))] [] (.ret [.v 38]))) (.ret [.c (.b false)])))
  (.lets [.call 36 [.v 0, .v 1, .v 2] 0, .call 36 [.v 0, .v 1, .v 2] 1] [] (.lets [.not (.v 37)] [] t_lLockRun_47))
def t_lLockRun_49 : T :=
  .lets [.bin .eql (.v 5) (.c (.i .i64 3))] [] (.ite (.v 36) (.lets [.len (.v 4)] [] (.lets [.bin .eql (.v 37) (.c (.i .i64 0))] [] (.ret [.v 38]))) (.ret [.c (.b false)]))
def t_lLockRun_50 : T :=
  .lets [.bin .eql (.v 5) (.c (.i .i64 8))] [] (.ite (.v 40) (.lets [.len (.v 4)] [] (.lets [.bin .eql (.v 41) (.c (.i .i64 0))] [] (.ret [.v 42]))) (.ret [.c (.b false)]))
def t_lLockRun_51 : T :=
  .ite (.v 39) t_lLockRun_50 (.lets [.bin .eql (.v 5) (.c (.i .i64 0))] [] (.ite (.v 40) (.lets [.call 51 [.v 4, .v 37] 0] [] (.ret [.v 41])) (.ret [.c (.b false)])))
def t_lLockRun_52 : T :=
  .ite (.v 36) (.lets [.bin .eql (.v 5) (.v 8)] [] (.ite (.v 37) (.lets [.len (.v 4)] [] (.lets [.bin .eql (.v 38) (.c (.i .i64 0))] [] (.ret [.v 39]))) (.ret [.c (.b false)])))
  (.lets [.call 36 [.v 0, .v 1, .v 2] 0, .call 36 [.v 0, .v 1, .v 2] 1] [] (.lets [.not (.v 38)] [] t_lLockRun_51))
def t_lLockRun_53 : T :=
  .ite (.v 34) (.lets [.bin .geq (.v 30) (.c (.i .i64 0))] [] (.ite (.v 35) t_lLockRun_49 (.lets [.bin .neq (.v 8) (.c (.i .i64 0))] [] t_lLockRun_52))) (.lets [.bin .add (.v 30) (.c
  (.i .i64 1))] [] (.again 0 [.v 29, .v 35]))
def t_lLockRun_54 : T :=
  .ite (.v 33) (.lets [.bin .geq (.v 30) (.c (.i .i64 0))] [] (.ite (.v 34) t_lLockRun_45 (.lets [.bin .neq (.v 8) (.c (.i .i64 0))] [] t_lLockRun_48))) (.lets [.bin .gtr (.v 32) (.c
  (.i .i64 1000000))] [] t_lLockRun_53)
def t_lLockRun_55 : T :=
  .lets [.bin .eql (.v 5) (.c (.i .i64 3))] [] (.ite (.v 33) (.lets [.len (.v 4)] [] (.lets [.bin .eql (.v 34) (.c (.i .i64 0))] [] (.ret [.v 35]))) (.ret [.c (.b false)]))
def t_lLockRun_56 : T :=
  .lets [.bin .eql (.v 5) (.c (.i .i64 8))] [] (.ite (.v 37) (.lets [.len (.v 4)] [] (.lets [.bin .eql (.v 38) (.c (.i .i64 0))] [] (.ret [.v 39]))) (.ret [.c (.b false)]))
def t_lLockRun_57 : T :=
  .ite (.v 36) t_lLockRun_56 (.lets [.bin .eql (.v 5) (.c (.i .i64 0))] [] (.ite (.v 37) (.lets [.call 51 [.v 4, .v 34] 0] [] (.ret [.v 38])) (.ret [.c (.b false)])))
def t_lLockRun_58 : T :=
  .ite (.v 33) (.lets [.bin .eql (.v 5) (.v 8)] [] (.ite (.v 34) (.lets [.len (.v 4)] [] (.lets [.bin .eql (.v 35) (.c (.i .i64 0))] [] (.ret [.v 36]))) (.ret [.c (.b false)])))
  (.lets [.call 36 [.v 0, .v 1, .v 2] 0, .call 36 [.v 0, .v 1, .v 2] 1] [] (.lets [.not (.v 35)] [] t_lLockRun_57))
def t_lLockRun_59 : T :=
  .ite (.v 31) (.lets [] [.inr 1 (.v 1) (.v 30)] (.lets [.idx (.v 1) (.v 30) 0] [] (.lets [.bin .lss (.v 32) (.c (.i .i64 (-1000000)))] [] t_lLockRun_54))) (.lets [.bin .geq (.c (.i
  .i64 (-1))) (.c (.i .i64 0))] [] (.ite (.v 32) t_lLockRun_55 (.lets [.bin .neq (.v 8) (.c (.i .i64 0))] [] t_lLockRun_58)))
def t_lLockRun_60 : T :=
  .lets [.bin .gtr (.v 26) (.c (.i .i64 16))] [] (.ite (.v 27) t_lLockRun_13 (.lets [.len (.v 1)] [] (.loop [.c (.i .i64 0), .c (.i .i64 0)] (.lets [.bin .lss (.v 30) (.v 28)] []
  t_lLockRun_59))))
def t_lLockRun_61 : T :=
  .lets [.bin .lss (.v 2) (.c (.i .i64 0))] [] (.ite (.v 24) t_lLockRun_43 (.lets [.bin .gtr (.v 2) (.c (.i .i64 1000))] [] (.ite (.v 25) t_lLockRun_44 (.lets [.len (.v 1)] []
  t_lLockRun_60))))
def t_lLockRun_62 : T :=
  .lets [.bin .eql (.v 5) (.c (.i .i64 8))] [] (.ite (.v 28) (.lets [.len (.v 4)] [] (.lets [.bin .eql (.v 29) (.c (.i .i64 0))] [] (.ret [.v 30]))) (.ret [.c (.b false)]))
def t_lLockRun_63 : T :=
  .ite (.v 27) t_lLockRun_62 (.lets [.bin .eql (.v 5) (.c (.i .i64 0))] [] (.ite (.v 28) (.lets [.call 51 [.v 4, .v 25] 0] [] (.ret [.v 29])) (.ret [.c (.b false)])))
def t_lLockRun_64 : T :=
  .ite (.v 24) (.lets [.bin .eql (.v 5) (.v 8)] [] (.ite (.v 25) (.lets [.len (.v 4)] [] (.lets [.bin .eql (.v 26) (.c (.i .i64 0))] [] (.ret [.v 27]))) (.ret [.c (.b false)])))
  (.lets [.call 36 [.v 0, .v 1, .v 2] 0, .call 36 [.v 0, .v 1, .v 2] 1] [] (.lets [.not (.v 26)] [] t_lLockRun_63))
def t_lLockRun_65 : T :=
  .ite (.v 22) (.ret [.c (.b false)]) (.lets [.bin .eql (.v 8) (.c (.i .i64 0))] [] (.ite (.v 23) t_lLockRun_61 (.lets [.bin .neq (.v 8) (.c (.i .i64 0))] [] t_lLockRun_64)))
def t_lLockRun_66 : T :=
  .lets [.bin .eql (.v 5) (.c (.i .i64 3))] [] (.ite (.v 34) (.lets [.len (.v 4)] [] (.lets [.bin .eql (.v 35) (.c (.i .i64 0))] [] (.ret [.v 36]))) (.ret [.c (.b false)]))
def t_lLockRun_67 : T :=
  .lets [.bin .eql (.v 5) (.c (.i .i64 8))] [] (.ite (.v 38) (.lets [.len (.v 4)] [] (.lets [.bin .eql (.v 39) (.c (.i .i64 0))] [] (.ret [.v 40]))) (.ret [.c (.b false)]))
def t_lLockRun_68 : T :=
  .ite (.v 37) t_lLockRun_67 (.lets [.bin .eql (.v 5) (.c (.i .i64 0))] [] (.ite (.v 38) (.lets [.call 51 [.v 4, .v 35] 0] [] (.ret [.v 39])) (.ret [.c (.b false)])))
def t_lLockRun_69 : T :=
  .ite (.v 34) (.lets [.bin .eql (.v 5) (.v 8)] [] (.ite (.v 35) (.lets [.len (.v 4)] [] (.lets [.bin .eql (.v 36) (.c (.i .i64 0))] [] (.ret [.v 37]))) (.ret [.c (.b false)])))
  (.lets [.call 36 [.v 0, .v 1, .v 2] 0, .call 36 [.v 0, .v 1, .v 2] 1] [] (.lets [.not (.v 36)] [] t_lLockRun_68))
def t_lLockRun_70 : T :=
  .ite (.v 32) (.lets [.bin .geq (.v 28) (.c (.i .i64 0))] [] (.ite (.v 33) t_lLockRun_66 (.lets [.bin .neq (.v 8) (.c (.i .i64 0))] [] t_lLockRun_69))) (.lets [.bin .add (.v 28) (.c
  (.i .i64 1))] [] (.again 0 [.v 27, .v 33]))
def t_lLockRun_71 : T :=
  .ite (.v 31) (.lets [.bin .geq (.v 28) (.c (.i .i64 0))] [] (.ite (.v 32) t_lLockRun_55 (.lets [.bin .neq (.v 8) (.c (.i .i64 0))] [] t_lLockRun_58))) (.lets [.bin .gtr (.v 30) (.c
  (.i .i64 1000000))] [] t_lLockRun_70)
def t_lLockRun_72 : T :=
  .ite (.v 29) (.lets [] [.inr 1 (.v 1) (.v 28)] (.lets [.idx (.v 1) (.v 28) 0] [] (.lets [.bin .lss (.v 30) (.c (.i .i64 (-1000000)))] [] t_lLockRun_71))) (.lets [.bin .geq (.c (.i
  .i64 (-1))) (.c (.i .i64 0))] [] (.ite (.v 30) t_lLockRun_7 (.lets [.bin .neq (.v 8) (.c (.i .i64 0))] [] t_lLockRun_10)))
def t_lLockRun_73 : T :=
  .lets [.bin .gtr (.v 24) (.c (.i .i64 16))] [] (.ite (.v 25) t_lLockRun_44 (.lets [.len (.v 1)] [] (.loop [.c (.i .i64 0), .c (.i .i64 0)] (.lets [.bin .lss (.v 28) (.v 26)] []
  t_lLockRun_72))))
def t_lLockRun_74 : T :=
  .lets [.bin .lss (.v 2) (.c (.i .i64 0))] [] (.ite (.v 22) t_lLockRun_2 (.lets [.bin .gtr (.v 2) (.c (.i .i64 1000))] [] (.ite (.v 23) t_lLockRun_25 (.lets [.len (.v 1)] []
  t_lLockRun_73))))
def t_lLockRun_75 : T :=
  .lets [.bin .eql (.v 5) (.c (.i .i64 8))] [] (.ite (.v 26) (.lets [.len (.v 4)] [] (.lets [.bin .eql (.v 27) (.c (.i .i64 0))] [] (.ret [.v 28]))) (.ret [.c (.b false)]))
def t_lLockRun_76 : T :=
  .ite (.v 25) t_lLockRun_75 (.lets [.bin .eql (.v 5) (.c (.i .i64 0))] [] (.ite (.v 26) (.lets [.call 51 [.v 4, .v 23] 0] [] (.ret [.v 27])) (.ret [.c (.b false)])))
def t_lLockRun_77 : T :=
  .ite (.v 22) (.lets [.bin .eql (.v 5) (.v 8)] [] (.ite (.v 23) (.lets [.len (.v 4)] [] (.lets [.bin .eql (.v 24) (.c (.i .i64 0))] [] (.ret [.v 25]))) (.ret [.c (.b false)])))
  (.lets [.call 36 [.v 0, .v 1, .v 2] 0, .call 36 [.v 0, .v 1, .v 2] 1] [] (.lets [.not (.v 24)] [] t_lLockRun_76))
def t_lLockRun_78 : T :=
  .ite (.v 20) (.lets [.call 37 [.v 0, .v 3, .v 2] 0] [] (.lets [.beq true (.v 6) (.v 21)] [] t_lLockRun_65)) (.lets [.bin .eql (.v 8) (.c (.i .i64 0))] [] (.ite (.v 21) t_lLockRun_74
  (.lets [.bin .neq (.v 8) (.c (.i .i64 0))] [] t_lLockRun_77)))
def t_lLockRun_79 : T :=
  .ite (.v 19) (.ite (.v 6) (.ret [.c (.b false)]) (.lets [.bin .eql (.v 14) (.c (.i .i64 0))] [] t_lLockRun_78)) (.lets [.bin .eql (.v 14) (.c (.i .i64 0))] [] t_lLockRun_78)
def t_lLockRun_80 : T :=
  .ite (.v 17) (.lets [.bin .neq (.v 7) (.c (.i .i64 3))] [] (.ite (.v 18) (.ret [.c (.b false)]) t_lLockRun_42)) (.lets [.bin .neq (.v 7) (.v 14)] [] (.ite (.v 18) (.ret [.c (.b
  false)]) (.lets [.bin .neq (.v 14) (.c (.i .i64 0))] [] t_lLockRun_79)))
def t_lLockRun_81 : T :=
  .ite (.v 16) (.lets [.bin .neq (.v 7) (.c (.i .i64 3))] [] (.ite (.v 17) (.ret [.c (.b false)]) t_lLockRun_23)) (.lets [.bin .gtr (.v 2) (.c (.i .i64 1000))] [] t_lLockRun_80)
def t_lLockRun_82 : T :=
  .ite (.v 20) (.ret [.c (.b false)]) (.lets [.bin .eql (.v 8) (.c (.i .i64 0))] [] (.ite (.v 21) t_lLockRun_74 (.lets [.bin .neq (.v 8) (.c (.i .i64 0))] [] t_lLockRun_77)))
def t_lLockRun_83 : T :=
  .ite (.v 18) (.lets [.call 37 [.v 0, .v 3, .v 2] 0] [] (.lets [.beq true (.v 6) (.v 19)] [] t_lLockRun_82)) (.lets [.bin .eql (.v 8) (.c (.i .i64 0))] [] (.ite (.v 19) t_lLockRun_38
  (.lets [.bin .neq (.v 8) (.c (.i .i64 0))] [] t_lLockRun_41)))
def t_lLockRun_84 : T :=
  .ite (.v 17) (.ite (.v 6) (.ret [.c (.b false)]) (.lets [.bin .eql (.v 14) (.c (.i .i64 0))] [] t_lLockRun_83)) (.lets [.bin .eql (.v 14) (.c (.i .i64 0))] [] t_lLockRun_83)
def t_lLockRun_85 : T :=
  .ite (.v 15) (.lets [.bin .lss (.v 2) (.c (.i .i64 0))] [] t_lLockRun_81) (.lets [.bin .neq (.v 7) (.v 14)] [] (.ite (.v 16) (.ret [.c (.b false)]) (.lets [.bin .neq (.v 14) (.c (.i
  .i64 0))] [] t_lLockRun_84)))
def t_lLockRun_86 : T :=
  .lets [.bin .eql (.v 5) (.c (.i .i64 3))] [] (.ite (.v 19) (.lets [.len (.v 4)] [] (.lets [.bin .eql (.v 20) (.c (.i .i64 0))] [] (.ret [.v 21]))) (.ret [.c (.b false)]))
def t_lLockRun_87 : T :=
  .ite (.v 28) (.lets [.bin .geq (.v 24) (.c (.i .i64 0))] [] (.ite (.v 29) t_lLockRun_3 (.lets [.bin .neq (.v 8) (.c (.i .i64 0))] [] t_lLockRun_6))) (.lets [.bin .add (.v 24) (.c
  (.i .i64 1))] [] (.again 0 [.v 23, .v 29]))
def t_lLockRun_88 : T :=
  .ite (.v 27) (.lets [.bin .geq (.v 24) (.c (.i .i64 0))] [] (.ite (.v 28) t_lLockRun_32 (.lets [.bin .neq (.v 8) (.c (.i .i64 0))] [] t_lLockRun_35))) (.lets [.bin .gtr (.v 26) (.c
  (.i .i64 1000000))] [] t_lLockRun_87)
def t_lLockRun_89 : T :=
  .lets [.bin .eql (.v 5) (.c (.i .i64 3))] [] (.ite (.v 27) (.lets [.len (.v 4)] [] (.lets [.bin .eql (.v 28) (.c (.i .i64 0))] [] (.ret [.v 29]))) (.ret [.c (.b false)]))
def t_lLockRun_90 : T :=
  .lets [.bin .eql (.v 5) (.c (.i .i64 8))] [] (.ite (.v 31) (.lets [.len (.v 4)] [] (.lets [.bin .eql (.v 32) (.c (.i .i64 0))] [] (.ret [.v 33]))) (.ret [.c (.b false)]))
def t_lLockRun_91 : T :=
  .ite (.v 30) t_lLockRun_90 (.lets [.bin .eql (.v 5) (.c (.i .i64 0))] [] (.ite (.v 31) (.lets [.call 51 [.v 4, .v 28] 0] [] (.ret [.v 32])) (.ret [.c (.b false)])))
def t_lLockRun_92 : T :=
  .ite (.v 27) (.lets [.bin .eql (.v 5) (.v 8)] [] (.ite (.v 28) (.lets [.len (.v 4)] [] (.lets [.bin .eql (.v 29) (.c (.i .i64 0))] [] (.ret [.v 30]))) (.ret [.c (.b false)])))
  (.lets [.call 36 [.v 0, .v 1, .v 2] 0, .call 36 [.v 0, .v 1, .v 2] 1] [] (.lets [.not (.v 29)] [] t_lLockRun_91))
def t_lLockRun_93 : T :=
  .ite (.v 25) (.lets [] [.inr 1 (.v 1) (.v 24)] (.lets [.idx (.v 1) (.v 24) 0] [] (.lets [.bin .lss (.v 26) (.c (.i .i64 (-1000000)))] [] t_lLockRun_88))) (.lets [.bin .geq (.c (.i
  .i64 (-1))) (.c (.i .i64 0))] [] (.ite (.v 26) t_lLockRun_89 (.lets [.bin .neq (.v 8) (.c (.i .i64 0))] [] t_lLockRun_92)))
def t_lLockRun_94 : T :=
  .lets [.bin .gtr (.v 20) (.c (.i .i64 16))] [] (.ite (.v 21) t_lLockRun_24 (.lets [.len (.v 1)] [] (.loop [.c (.i .i64 0), .c (.i .i64 0)] (.lets [.bin .lss (.v 24) (.v 22)] []
  t_lLockRun_93))))
def t_lLockRun_95 : T :=
  .lets [.bin .lss (.v 2) (.c (.i .i64 0))] [] (.ite (.v 18) t_lLockRun_86 (.lets [.bin .gtr (.v 2) (.c (.i .i64 1000))] [] (.ite (.v 19) t_lLockRun_0 (.lets [.len (.v 1)] []
  t_lLockRun_94))))
def t_lLockRun_96 : T :=
  .lets [.bin .eql (.v 5) (.c (.i .i64 8))] [] (.ite (.v 22) (.lets [.len (.v 4)] [] (.lets [.bin .eql (.v 23) (.c (.i .i64 0))] [] (.ret [.v 24]))) (.ret [.c (.b false)]))
def t_lLockRun_97 : T :=
  .ite (.v 21) t_lLockRun_96 (.lets [.bin .eql (.v 5) (.c (.i .i64 0))] [] (.ite (.v 22) (.lets [.call 51 [.v 4, .v 19] 0] [] (.ret [.v 23])) (.ret [.c (.b false)])))
def t_lLockRun_98 : T :=
  .ite (.v 18) (.lets [.bin .eql (.v 5) (.v 8)] [] (.ite (.v 19) (.lets [.len (.v 4)] [] (.lets [.bin .eql (.v 20) (.c (.i .i64 0))] [] (.ret [.v 21]))) (.ret [.c (.b false)])))
  (.lets [.call 36 [.v 0, .v 1, .v 2] 0, .call 36 [.v 0, .v 1, .v 2] 1] [] (.lets [.not (.v 20)] [] t_lLockRun_97))
def t_lLockRun_99 : T :=
  .ite (.v 6) (.ret [.c (.b false)]) (.lets [.bin .eql (.v 8) (.c (.i .i64 0))] [] (.ite (.v 17) t_lLockRun_95 (.lets [.bin .neq (.v 8) (.c (.i .i64 0))] [] t_lLockRun_98)))
def t_lLockRun_100 : T :=
  .ite (.v 33) (.lets [.bin .geq (.v 29) (.c (.i .i64 0))] [] (.ite (.v 34) t_lLockRun_45 (.lets [.bin .neq (.v 8) (.c (.i .i64 0))] [] t_lLockRun_48))) (.lets [.bin .add (.v 29) (.c
  (.i .i64 1))] [] (.again 0 [.v 28, .v 34]))
def t_lLockRun_101 : T :=
  .ite (.v 32) (.lets [.bin .geq (.v 29) (.c (.i .i64 0))] [] (.ite (.v 33) t_lLockRun_66 (.lets [.bin .neq (.v 8) (.c (.i .i64 0))] [] t_lLockRun_69))) (.lets [.bin .gtr (.v 31) (.c
  (.i .i64 1000000))] [] t_lLockRun_100)
def t_lLockRun_102 : T :=
  .ite (.v 30) (.lets [] [.inr 1 (.v 1) (.v 29)] (.lets [.idx (.v 1) (.v 29) 0] [] (.lets [.bin .lss (.v 31) (.c (.i .i64 (-1000000)))] [] t_lLockRun_101))) (.lets [.bin .geq (.c (.i
  .i64 (-1))) (.c (.i .i64 0))] [] (.ite (.v 31) t_lLockRun_26 (.lets [.bin .neq (.v 8) (.c (.i .i64 0))] [] t_lLockRun_29)))
def t_lLockRun_103 : T :=
  .lets [.bin .gtr (.v 25) (.c (.i .i64 16))] [] (.ite (.v 26) t_lLockRun_89 (.lets [.len (.v 1)] [] (.loop [.c (.i .i64 0), .c (.i .i64 0)] (.lets [.bin .lss (.v 29) (.v 27)] []
  t_lLockRun_102))))
def t_lLockRun_104 : T :=
  .lets [.bin .lss (.v 2) (.c (.i .i64 0))] [] (.ite (.v 23) t_lLockRun_25 (.lets [.bin .gtr (.v 2) (.c (.i .i64 1000))] [] (.ite (.v 24) t_lLockRun_43 (.lets [.len (.v 1)] []
  t_lLockRun_103))))
def t_lLockRun_105 : T :=
  .lets [.bin .eql (.v 5) (.c (.i .i64 8))] [] (.ite (.v 27) (.lets [.len (.v 4)] [] (.lets [.bin .eql (.v 28) (.c (.i .i64 0))] [] (.ret [.v 29]))) (.ret [.c (.b false)]))
def t_lLockRun_106 : T :=
  .ite (.v 26) t_lLockRun_105 (.lets [.bin .eql (.v 5) (.c (.i .i64 0))] [] (.ite (.v 27) (.lets [.call 51 [.v 4, .v 24] 0] [] (.ret [.v 28])) (.ret [.c (.b false)])))
def t_lLockRun_107 : T :=
  .ite (.v 23) (.lets [.bin .eql (.v 5) (.v 8)] [] (.ite (.v 24) (.lets [.len (.v 4)] [] (.lets [.bin .eql (.v 25) (.c (.i .i64 0))] [] (.ret [.v 26]))) (.ret [.c (.b false)])))
  (.lets [.call 36 [.v 0, .v 1, .v 2] 0, .call 36 [.v 0, .v 1, .v 2] 1] [] (.lets [.not (.v 25)] [] t_lLockRun_106))
def t_lLockRun_108 : T :=
  .ite (.v 21) (.ret [.c (.b false)]) (.lets [.bin .eql (.v 8) (.c (.i .i64 0))] [] (.ite (.v 22) t_lLockRun_104 (.lets [.bin .neq (.v 8) (.c (.i .i64 0))] [] t_lLockRun_107)))
def t_lLockRun_109 : T :=
  .ite (.v 31) (.lets [.bin .geq (.v 27) (.c (.i .i64 0))] [] (.ite (.v 32) t_lLockRun_55 (.lets [.bin .neq (.v 8) (.c (.i .i64 0))] [] t_lLockRun_58))) (.lets [.bin .add (.v 27) (.c
  (.i .i64 1))] [] (.again 0 [.v 26, .v 32]))
def t_lLockRun_110 : T :=
  .ite (.v 30) (.lets [.bin .geq (.v 27) (.c (.i .i64 0))] [] (.ite (.v 31) t_lLockRun_26 (.lets [.bin .neq (.v 8) (.c (.i .i64 0))] [] t_lLockRun_29))) (.lets [.bin .gtr (.v 29) (.c
  (.i .i64 1000000))] [] t_lLockRun_109)
def t_lLockRun_111 : T :=
  .ite (.v 28) (.lets [] [.inr 1 (.v 1) (.v 27)] (.lets [.idx (.v 1) (.v 27) 0] [] (.lets [.bin .lss (.v 29) (.c (.i .i64 (-1000000)))] [] t_lLockRun_110))) (.lets [.bin .geq (.c (.i
  .i64 (-1))) (.c (.i .i64 0))] [] (.ite (.v 29) t_lLockRun_3 (.lets [.bin .neq (.v 8) (.c (.i .i64 0))] [] t_lLockRun_6)))
def t_lLockRun_112 : T :=
  .lets [.bin .gtr (.v 23) (.c (.i .i64 16))] [] (.ite (.v 24) t_lLockRun_43 (.lets [.len (.v 1)] [] (.loop [.c (.i .i64 0), .c (.i .i64 0)] (.lets [.bin .lss (.v 27) (.v 25)] []
  t_lLockRun_111))))
def t_lLockRun_113 : T :=
  .lets [.bin .lss (.v 2) (.c (.i .i64 0))] [] (.ite (.v 21) t_lLockRun_24 (.lets [.bin .gtr (.v 2) (.c (.i .i64 1000))] [] (.ite (.v 22) t_lLockRun_2 (.lets [.len (.v 1)] []
  t_lLockRun_112))))
def t_lLockRun_114 : T :=
  .lets [.bin .eql (.v 5) (.c (.i .i64 8))] [] (.ite (.v 25) (.lets [.len (.v 4)] [] (.lets [.bin .eql (.v 26) (.c (.i .i64 0))] [] (.ret [.v 27]))) (.ret [.c (.b false)]))
def t_lLockRun_115 : T :=
  .ite (.v 24) t_lLockRun_114 (.lets [.bin .eql (.v 5) (.c (.i .i64 0))] [] (.ite (.v 25) (.lets [.call 51 [.v 4, .v 22] 0] [] (.ret [.v 26])) (.ret [.c (.b false)])))
def t_lLockRun_116 : T :=
  .ite (.v 21) (.lets [.bin .eql (.v 5) (.v 8)] [] (.ite (.v 22) (.lets [.len (.v 4)] [] (.lets [.bin .eql (.v 23) (.c (.i .i64 0))] [] (.ret [.v 24]))) (.ret [.c (.b false)])))
  (.lets [.call 36 [.v 0, .v 1, .v 2] 0, .call 36 [.v 0, .v 1, .v 2] 1] [] (.lets [.not (.v 23)] [] t_lLockRun_115))
def t_lLockRun_117 : T :=
  .ite (.v 19) (.lets [.call 37 [.v 0, .v 3, .v 2] 0] [] (.lets [.beq true (.v 6) (.v 20)] [] t_lLockRun_108)) (.lets [.bin .eql (.v 8) (.c (.i .i64 0))] [] (.ite (.v 20)
  t_lLockRun_113 (.lets [.bin .neq (.v 8) (.c (.i .i64 0))] [] t_lLockRun_116)))
def t_lLockRun_118 : T :=
  .ite (.v 18) (.ite (.v 6) (.ret [.c (.b false)]) (.lets [.bin .eql (.v 8) (.c (.i .i64 0))] [] t_lLockRun_117)) (.lets [.bin .eql (.v 8) (.c (.i .i64 0))] [] t_lLockRun_117)
def t_lLockRun_119 : T :=
  .ite (.v 16) (.lets [.bin .neq (.v 7) (.c (.i .i64 3))] [] (.ite (.v 17) (.ret [.c (.b false)]) t_lLockRun_23)) (.lets [.bin .neq (.v 7) (.v 8)] [] (.ite (.v 17) (.ret [.c (.b
  false)]) (.lets [.bin .neq (.v 8) (.c (.i .i64 0))] [] t_lLockRun_118)))
def t_lLockRun_120 : T :=
  .ite (.v 15) (.lets [.bin .neq (.v 7) (.c (.i .i64 3))] [] (.ite (.v 16) (.ret [.c (.b false)]) t_lLockRun_99)) (.lets [.bin .gtr (.v 2) (.c (.i .i64 1000))] [] t_lLockRun_119)
def t_lLockRun_121 : T :=
  .ite (.v 19) (.ret [.c (.b false)]) (.lets [.bin .eql (.v 8) (.c (.i .i64 0))] [] (.ite (.v 20) t_lLockRun_113 (.lets [.bin .neq (.v 8) (.c (.i .i64 0))] [] t_lLockRun_116)))
def t_lLockRun_122 : T :=
  .ite (.v 17) (.lets [.call 37 [.v 0, .v 3, .v 2] 0] [] (.lets [.beq true (.v 6) (.v 18)] [] t_lLockRun_121)) (.lets [.bin .eql (.v 8) (.c (.i .i64 0))] [] (.ite (.v 18)
  t_lLockRun_19 (.lets [.bin .neq (.v 8) (.c (.i .i64 0))] [] t_lLockRun_22)))
def t_lLockRun_123 : T :=
  .ite (.v 16) (.ite (.v 6) (.ret [.c (.b false)]) (.lets [.bin .eql (.v 8) (.c (.i .i64 0))] [] t_lLockRun_122)) (.lets [.bin .eql (.v 8) (.c (.i .i64 0))] [] t_lLockRun_122)
def t_lLockRun_124 : T :=
  .ite (.v 14) (.lets [.bin .lss (.v 2) (.c (.i .i64 0))] [] t_lLockRun_120) (.lets [.bin .neq (.v 7) (.v 8)] [] (.ite (.v 15) (.ret [.c (.b false)]) (.lets [.bin .neq (.v 8) (.c (.i
  .i64 0))] [] t_lLockRun_123)))
def t_lLockRun_125 : T :=
  .ite (.v 13) (.lets [.call 21 [.v 3] 0] [] (.lets [.bin .eql (.v 14) (.c (.i .i64 0))] [] t_lLockRun_85)) (.lets [.bin .eql (.v 8) (.c (.i .i64 0))] [] t_lLockRun_124)
def t_lLockRun_126 : T :=
  .lets [.call 7 [.v 0] 0] [] (.lets [.bin .neq (.v 11) (.v 8)] [] (.ite (.v 12) (.ret [.c (.b false)]) (.lets [.bin .eql (.v 8) (.c (.i .i64 0))] [] t_lLockRun_125)))
def t_lLockRun_127 : T :=
  .lets [.call 15 [.v 0, .v 3, .v 2] 0, .call 15 [.v 0, .v 3, .v 2] 1] [] (.lets [.call 21 [.v 0] 0] [] (.lets [.call 38 [] 0] [] (.lets [.not (.v 9)] [] (.ite (.v 10) (.ret [.c (.b
  false)]) t_lLockRun_126))))
def t_lLockRun : T :=
  .lets [.call 22 [.v 0, .v 1, .v 2] 0, .call 22 [.v 0, .v 1, .v 2] 1] [] t_lLockRun_127
attribute [local irreducible] sp_eqInts sp_lLocked sp_lockCheck sp_lockOpens sp_lockRun sp_rCheckOps sp_rOpened sp_rRunOps
theorem m_lLockRun : Meets Tryd.prog sp_lLockRun 3 ⟨[.one, .one, .one, .one], [(false, [.scal])], true⟩ := by
  refine meets_fin (sp := (spsOf [(7, sp_lockCheck), (15, sp_lockOpens), (21, sp_rCheckOps), (22, sp_lockRun), (36, sp_rRunOps), (37, sp_rOpened), (38, sp_lLocked), (51, sp_eqInts)])) (sigs := sigsA) (cut := []) (hints := []) (fns := [fnOf 16 Tryd.f16 [] [], fnOf 37 Tryd.f37 [⟨2, [.t 4, .t 8]⟩] [], fnOf 17 Tryd.f17 [] []]) (dep := 4) (pool := 600) (fn := Tryd.f3) (t := t_lLockRun) (by kernel_rfl) (by kernel_rfl) (by kernel_rfl) ?_ ?_ ?_
  · exact (fnOk_cons (fn := Tryd.f16) (by kernel_rfl) (by kernel_rfl) (by kernel_rfl) (by kernel_rfl) (by kernel_rfl) (fnOk_cons (fn := Tryd.f37) (by kernel_rfl) (by kernel_rfl) (by kernel_rfl) (by kernel_rfl) (by kernel_rfl) (fnOk_cons (fn := Tryd.f17) (by kernel_rfl) (by kernel_rfl) (by kernel_rfl) (by kernel_rfl) (by kernel_rfl) fnOk_nil)))
  · exact (sig_of (L := [(7, sp_lockCheck), (15, sp_lockOpens), (21, sp_rCheckOps), (22, sp_lockRun), (36, sp_rRunOps), (37, sp_rOpened), (38, sp_lLocked), (51, sp_eqInts)]) ⟨sig_at rfl m_lockCheck, sig_at rfl m_lockOpens, sig_at rfl m_rCheckOps, sig_at rfl m_lockRun, sig_at rfl m_rRunOps, sig_at rfl m_rOpened, sig_at rfl m_lLocked, sig_at rfl m_eqInts, trivial⟩)
  · rintro ds rs - h
    obtain ⟨⟨l, s, ht, k⟩, -, rfl, rfl⟩ := spD_some h
    clear h
    refine ⟨⟨s.length + 1, ?_⟩, scalOk_1 rfl⟩
    show den _ _ t_lLockRun [.l 2 (l.map eOp), .l 1 (s.map eInt), I ht, .l 2 (k.map eOp)] [] = ret true
    have a1 := sp_lockRun_at' l s ht
    have a2 := sp_lockOpens_at l k ht
    have a3 := sp_rCheckOps_at l
    have a4 := sp_rCheckOps_at k
    have a5 := sp_lockCheck_at l
    have a6 := sp_lLocked_at
    unfold t_lLockRun
    have hcc : ¬ opsCheck l ≠ opsCheck l := fun h => h rfl
    have hkk : ¬ opsCheck k ≠ opsCheck k := fun h => h rfl
    have h3 : ¬ (3 : Int) ≠ 3 := fun h => h rfl
    have h0 : ¬ (0 : Int) ≠ 0 := fun h => h rfl
    have hn0 : ((([] : List Int).length : Nat) : Int) = 0 := rfl
    by_cases hl : opsCheck l = 0
    · rw [hl] at a3 a5
      by_cases hk : opsCheck k = 0
      · rw [hk] at a4
        by_cases hb : ht < 0 ∨ 1000 < ht
        · rw [openOf_high hl hk hb] at a2
          rw [runOf_high hl (by omega)] at a1
          simp only at a1 a2
          rcases hb with hb | hb
          · repeat' (first | refine dq1 ?_ | refine dqc ?_ | refine dqm ?_ | refine dqk rfl (a1) ?_ | refine dqK rfl (a1) ?_ | refine dqk rfl (a2) ?_ | refine dqK rfl (a2) ?_ | refine dqk rfl (a3) ?_ | refine dqK rfl (a3) ?_ | refine dqk rfl (a4) ?_ | refine dqK rfl (a4) ?_ | refine dqk rfl (a5) ?_ | refine dqK rfl (a5) ?_ | refine dqk rfl (a6) ?_ | refine dqK rfl (a6) ?_ | exact den_ret rfl rfl | refine tR (fun h => ?_) fun h => ?_ | refine tB (fun h => ?_) fun h => ?_ | refine tC (fun h => ?_) fun h => ?_ | refine tN (fun h => ?_) fun h => ?_ | refine tF (fun h => ?_) fun h => ?_ | refine tG (fun h => ?_) fun h => ?_ | refine tP (fun h => ?_) fun h => ?_ | refine tQ (fun h => ?_) fun h => ?_ | refine tA (fun h => ?_) fun h => ?_ | refine tO (fun h => ?_) fun h => ?_ | refine tU (fun h => ?_) fun h => ?_ | refine tV (fun h => ?_) fun h => ?_ | refine dqT ?_ | refine dqF ?_ | refine den_t rfl ?_ | refine den_f rfl ?_ | refine dqTn ?_ | refine dqFn ?_)
          · have hb' : ¬ ht < 0 := by omega
            repeat' (first | refine dq1 ?_ | refine dqc ?_ | refine dqm ?_ | refine dqk rfl (a1) ?_ | refine dqK rfl (a1) ?_ | refine dqk rfl (a2) ?_ | refine dqK rfl (a2) ?_ | refine dqk rfl (a3) ?_ | refine dqK rfl (a3) ?_ | refine dqk rfl (a4) ?_ | refine dqK rfl (a4) ?_ | refine dqk rfl (a5) ?_ | refine dqK rfl (a5) ?_ | refine dqk rfl (a6) ?_ | refine dqK rfl (a6) ?_ | exact den_ret rfl rfl | refine tR (fun h => ?_) fun h => ?_ | refine tB (fun h => ?_) fun h => ?_ | refine tC (fun h => ?_) fun h => ?_ | refine tN (fun h => ?_) fun h => ?_ | refine tF (fun h => ?_) fun h => ?_ | refine tG (fun h => ?_) fun h => ?_ | refine tP (fun h => ?_) fun h => ?_ | refine tQ (fun h => ?_) fun h => ?_ | refine tA (fun h => ?_) fun h => ?_ | refine tO (fun h => ?_) fun h => ?_ | refine tU (fun h => ?_) fun h => ?_ | refine tV (fun h => ?_) fun h => ?_ | refine dqT ?_ | refine dqF ?_ | refine den_t rfl ?_ | refine den_f rfl ?_ | refine dqTn ?_ | refine dqFn ?_)
        · have hb1 : ¬ ht < 0 := by omega
          have hb2 : ¬ 1000 < ht := by omega
          have a7 := sp_rOpened_at l k ht hl hk ⟨by omega, by omega⟩
          have hf : (openOf l k ht).2 = 0 := by rw [openOf_fin hl hk (by omega) (by omega)]
          rw [hf] at a2
          generalize (openOf l k ht).1 = b at *
          have hbb : ¬ (b ≠ b) := fun h => h rfl
          by_cases hs : 16 < (s.length : Int)
          · rw [runOf_high hl (by omega)] at a1
            simp only at a1
            cases b <;> repeat' (first | refine dq1 ?_ | refine dqc ?_ | refine dqm ?_ | refine dqk rfl (a1) ?_ | refine dqK rfl (a1) ?_ | refine dqk rfl (a2) ?_ | refine dqK rfl (a2) ?_ | refine dqk rfl (a3) ?_ | refine dqK rfl (a3) ?_ | refine dqk rfl (a4) ?_ | refine dqK rfl (a4) ?_ | refine dqk rfl (a5) ?_ | refine dqK rfl (a5) ?_ | refine dqk rfl (a6) ?_ | refine dqK rfl (a6) ?_ | refine dqk rfl (a7) ?_ | refine dqK rfl (a7) ?_ | exact den_ret rfl rfl | refine tR (fun h => ?_) fun h => ?_ | refine tB (fun h => ?_) fun h => ?_ | refine tC (fun h => ?_) fun h => ?_ | refine tN (fun h => ?_) fun h => ?_ | refine tF (fun h => ?_) fun h => ?_ | refine tG (fun h => ?_) fun h => ?_ | refine tP (fun h => ?_) fun h => ?_ | refine tQ (fun h => ?_) fun h => ?_ | refine tA (fun h => ?_) fun h => ?_ | refine tO (fun h => ?_) fun h => ?_ | refine tU (fun h => ?_) fun h => ?_ | refine tV (fun h => ?_) fun h => ?_ | refine dqT ?_ | refine dqF ?_ | refine den_t rfl ?_ | refine den_f rfl ?_ | refine dqTn ?_ | refine dqFn ?_)
          · cases b
            all_goals
              repeat' (first | refine dq1 ?_ | refine dqc ?_ | refine dqm ?_ | refine dqk rfl (a1) ?_ | refine dqK rfl (a1) ?_ | refine dqk rfl (a2) ?_ | refine dqK rfl (a2) ?_ | refine dqk rfl (a3) ?_ | refine dqK rfl (a3) ?_ | refine dqk rfl (a4) ?_ | refine dqK rfl (a4) ?_ | refine dqk rfl (a5) ?_ | refine dqK rfl (a5) ?_ | refine dqk rfl (a6) ?_ | refine dqK rfl (a6) ?_ | refine dqk rfl (a7) ?_ | refine dqK rfl (a7) ?_ | exact den_ret rfl rfl | refine tR (fun h => ?_) fun h => ?_ | refine tB (fun h => ?_) fun h => ?_ | refine tC (fun h => ?_) fun h => ?_ | refine tN (fun h => ?_) fun h => ?_ | refine tF (fun h => ?_) fun h => ?_ | refine tG (fun h => ?_) fun h => ?_ | refine tP (fun h => ?_) fun h => ?_ | refine tQ (fun h => ?_) fun h => ?_ | refine tA (fun h => ?_) fun h => ?_ | refine tO (fun h => ?_) fun h => ?_ | refine tU (fun h => ?_) fun h => ?_ | refine tV (fun h => ?_) fun h => ?_ | refine dqT ?_ | refine dqF ?_ | refine den_t rfl ?_ | refine den_f rfl ?_ | refine dqTn ?_ | refine dqFn ?_)
              generalize hR : runOf l s ht = R at *
              (refine den_range (fun (_ : Unit) k => [I 0, I k]) (fun (_ : Unit) _ (_ : List Int) => true) (fun _ k => ∀ x ∈ s.take k, Fits x) () s ?_ ?_ ?_ ?_ ?_; rfl; exact (fun x hx => by simp at hx); omega)
              · rintro _ j x r hx hd hj hI again hag
                repeat' (first | refine dq1 ?_ | refine dqc ?_ | refine dqm ?_ | exact den_ret rfl rfl | refine tR (fun h => ?_) fun h => ?_ | refine tB (fun h => ?_) fun h => ?_ | refine tC (fun h => ?_) fun h => ?_ | refine tN (fun h => ?_) fun h => ?_ | refine tF (fun h => ?_) fun h => ?_ | refine tG (fun h => ?_) fun h => ?_ | refine tP (fun h => ?_) fun h => ?_ | refine tQ (fun h => ?_) fun h => ?_ | refine tA (fun h => ?_) fun h => ?_ | refine tO (fun h => ?_) fun h => ?_ | refine tU (fun h => ?_) fun h => ?_ | refine tV (fun h => ?_) fun h => ?_ | refine dqT ?_ | refine dqF ?_ | refine den_t rfl ?_ | refine den_f rfl ?_ | refine dqTn ?_ | refine dqFn ?_)
                by_cases hfx : Fits x
                · have hf' := fits_bd hfx
                  repeat' (first | refine dq1 ?_ | refine dqc ?_ | refine dqm ?_ | exact den_ret rfl rfl | refine tR (fun h => ?_) fun h => ?_ | refine tB (fun h => ?_) fun h => ?_ | refine tC (fun h => ?_) fun h => ?_ | refine tN (fun h => ?_) fun h => ?_ | refine tF (fun h => ?_) fun h => ?_ | refine tG (fun h => ?_) fun h => ?_ | refine tP (fun h => ?_) fun h => ?_ | refine tQ (fun h => ?_) fun h => ?_ | refine tA (fun h => ?_) fun h => ?_ | refine tO (fun h => ?_) fun h => ?_ | refine tU (fun h => ?_) fun h => ?_ | refine tV (fun h => ?_) fun h => ?_ | refine dqT ?_ | refine dqF ?_ | refine den_t rfl ?_ | refine den_f rfl ?_ | refine dqTn ?_ | refine dqFn ?_)
                  exact den_again rfl rfl (hag () (all_take' hI hx hfx))
                · have hR' : R = ([], 3) := by rw [← hR]; exact runOf_unfit hl (List.mem_of_getElem? hx) hfx
                  subst hR'
                  rcases fits_not hfx with hf' | hf'
                  · repeat' (first | refine dq1 ?_ | refine dqc ?_ | refine dqm ?_ | exact den_ret rfl rfl | refine tR (fun h => ?_) fun h => ?_ | refine tB (fun h => ?_) fun h => ?_ | refine tC (fun h => ?_) fun h => ?_ | refine tN (fun h => ?_) fun h => ?_ | refine tF (fun h => ?_) fun h => ?_ | refine tG (fun h => ?_) fun h => ?_ | refine tP (fun h => ?_) fun h => ?_ | refine tQ (fun h => ?_) fun h => ?_ | refine tA (fun h => ?_) fun h => ?_ | refine tO (fun h => ?_) fun h => ?_ | refine tU (fun h => ?_) fun h => ?_ | refine tV (fun h => ?_) fun h => ?_ | refine dqT ?_ | refine dqF ?_ | refine den_t rfl ?_ | refine den_f rfl ?_ | refine dqTn ?_ | refine dqFn ?_)
                  · have hf2 : ¬ x < -1000000 := by omega
                    repeat' (first | refine dq1 ?_ | refine dqc ?_ | refine dqm ?_ | exact den_ret rfl rfl | refine tR (fun h => ?_) fun h => ?_ | refine tB (fun h => ?_) fun h => ?_ | refine tC (fun h => ?_) fun h => ?_ | refine tN (fun h => ?_) fun h => ?_ | refine tF (fun h => ?_) fun h => ?_ | refine tG (fun h => ?_) fun h => ?_ | refine tP (fun h => ?_) fun h => ?_ | refine tQ (fun h => ?_) fun h => ?_ | refine tA (fun h => ?_) fun h => ?_ | refine tO (fun h => ?_) fun h => ?_ | refine tU (fun h => ?_) fun h => ?_ | refine tV (fun h => ?_) fun h => ?_ | refine dqT ?_ | refine dqF ?_ | refine den_t rfl ?_ | refine den_f rfl ?_ | refine dqTn ?_ | refine dqFn ?_)
              · rintro _ hI again
                rw [List.take_length] at hI
                have hR' : R = ranOf (runM ht s l) := by rw [← hR]; exact runOf_ran hl (by omega) (by omega) ⟨by omega, hI⟩
                subst hR'
                have a8 := sp_rRunOps_at l s ht hl ⟨by omega, hI⟩
                generalize runM ht s l = r at *
                cases r with
                | none =>
                  simp only [ranOf, ranR] at a8 ⊢
                  repeat' (first | refine dq1 ?_ | refine dqc ?_ | refine dqm ?_ | refine dqk rfl (a8) ?_ | refine dqK rfl (a8) ?_ | exact den_ret rfl rfl | refine tR (fun h => ?_) fun h => ?_ | refine tB (fun h => ?_) fun h => ?_ | refine tC (fun h => ?_) fun h => ?_ | refine tN (fun h => ?_) fun h => ?_ | refine tF (fun h => ?_) fun h => ?_ | refine tG (fun h => ?_) fun h => ?_ | refine tP (fun h => ?_) fun h => ?_ | refine tQ (fun h => ?_) fun h => ?_ | refine tA (fun h => ?_) fun h => ?_ | refine tO (fun h => ?_) fun h => ?_ | refine tU (fun h => ?_) fun h => ?_ | refine tV (fun h => ?_) fun h => ?_ | refine dqT ?_ | refine dqF ?_ | refine den_t rfl ?_ | refine den_f rfl ?_ | refine dqTn ?_ | refine dqFn ?_)
                | some s' =>
                  have a9 := sp_eqInts_at s' s'
                  rw [decide_eq_true rfl] at a9
                  simp only [ranOf, ranR] at a8 ⊢
                  repeat' (first | refine dq1 ?_ | refine dqc ?_ | refine dqm ?_ | refine dqk rfl (a8) ?_ | refine dqK rfl (a8) ?_ | refine dqk rfl (a9) ?_ | refine dqK rfl (a9) ?_ | exact den_ret rfl rfl | refine tR (fun h => ?_) fun h => ?_ | refine tB (fun h => ?_) fun h => ?_ | refine tC (fun h => ?_) fun h => ?_ | refine tN (fun h => ?_) fun h => ?_ | refine tF (fun h => ?_) fun h => ?_ | refine tG (fun h => ?_) fun h => ?_ | refine tP (fun h => ?_) fun h => ?_ | refine tQ (fun h => ?_) fun h => ?_ | refine tA (fun h => ?_) fun h => ?_ | refine tO (fun h => ?_) fun h => ?_ | refine tU (fun h => ?_) fun h => ?_ | refine tV (fun h => ?_) fun h => ?_ | refine dqT ?_ | refine dqF ?_ | refine den_t rfl ?_ | refine den_f rfl ?_ | refine dqTn ?_ | refine dqFn ?_)
      · rw [openOf_k hl hk] at a2
        simp only at a2
        by_cases hs : ht < 0 ∨ 1000 < ht ∨ 16 < (s.length : Int)
        · rw [runOf_high hl hs] at a1
          simp only at a1
          by_cases hb1 : ht < 0
          · repeat' (first | refine dq1 ?_ | refine dqc ?_ | refine dqm ?_ | refine dqk rfl (a1) ?_ | refine dqK rfl (a1) ?_ | refine dqk rfl (a2) ?_ | refine dqK rfl (a2) ?_ | refine dqk rfl (a3) ?_ | refine dqK rfl (a3) ?_ | refine dqk rfl (a4) ?_ | refine dqK rfl (a4) ?_ | refine dqk rfl (a5) ?_ | refine dqK rfl (a5) ?_ | refine dqk rfl (a6) ?_ | refine dqK rfl (a6) ?_ | exact den_ret rfl rfl | refine tR (fun h => ?_) fun h => ?_ | refine tB (fun h => ?_) fun h => ?_ | refine tC (fun h => ?_) fun h => ?_ | refine tN (fun h => ?_) fun h => ?_ | refine tF (fun h => ?_) fun h => ?_ | refine tG (fun h => ?_) fun h => ?_ | refine tP (fun h => ?_) fun h => ?_ | refine tQ (fun h => ?_) fun h => ?_ | refine tA (fun h => ?_) fun h => ?_ | refine tO (fun h => ?_) fun h => ?_ | refine tU (fun h => ?_) fun h => ?_ | refine tV (fun h => ?_) fun h => ?_ | refine dqT ?_ | refine dqF ?_ | refine den_t rfl ?_ | refine den_f rfl ?_ | refine dqTn ?_ | refine dqFn ?_)
          · by_cases hb2 : 1000 < ht
            · repeat' (first | refine dq1 ?_ | refine dqc ?_ | refine dqm ?_ | refine dqk rfl (a1) ?_ | refine dqK rfl (a1) ?_ | refine dqk rfl (a2) ?_ | refine dqK rfl (a2) ?_ | refine dqk rfl (a3) ?_ | refine dqK rfl (a3) ?_ | refine dqk rfl (a4) ?_ | refine dqK rfl (a4) ?_ | refine dqk rfl (a5) ?_ | refine dqK rfl (a5) ?_ | refine dqk rfl (a6) ?_ | refine dqK rfl (a6) ?_ | exact den_ret rfl rfl | refine tR (fun h => ?_) fun h => ?_ | refine tB (fun h => ?_) fun h => ?_ | refine tC (fun h => ?_) fun h => ?_ | refine tN (fun h => ?_) fun h => ?_ | refine tF (fun h => ?_) fun h => ?_ | refine tG (fun h => ?_) fun h => ?_ | refine tP (fun h => ?_) fun h => ?_ | refine tQ (fun h => ?_) fun h => ?_ | refine tA (fun h => ?_) fun h => ?_ | refine tO (fun h => ?_) fun h => ?_ | refine tU (fun h => ?_) fun h => ?_ | refine tV (fun h => ?_) fun h => ?_ | refine dqT ?_ | refine dqF ?_ | refine den_t rfl ?_ | refine den_f rfl ?_ | refine dqTn ?_ | refine dqFn ?_)
            · have hb3 : 16 < (s.length : Int) := by omega
              repeat' (first | refine dq1 ?_ | refine dqc ?_ | refine dqm ?_ | refine dqk rfl (a1) ?_ | refine dqK rfl (a1) ?_ | refine dqk rfl (a2) ?_ | refine dqK rfl (a2) ?_ | refine dqk rfl (a3) ?_ | refine dqK rfl (a3) ?_ | refine dqk rfl (a4) ?_ | refine dqK rfl (a4) ?_ | refine dqk rfl (a5) ?_ | refine dqK rfl (a5) ?_ | refine dqk rfl (a6) ?_ | refine dqK rfl (a6) ?_ | exact den_ret rfl rfl | refine tR (fun h => ?_) fun h => ?_ | refine tB (fun h => ?_) fun h => ?_ | refine tC (fun h => ?_) fun h => ?_ | refine tN (fun h => ?_) fun h => ?_ | refine tF (fun h => ?_) fun h => ?_ | refine tG (fun h => ?_) fun h => ?_ | refine tP (fun h => ?_) fun h => ?_ | refine tQ (fun h => ?_) fun h => ?_ | refine tA (fun h => ?_) fun h => ?_ | refine tO (fun h => ?_) fun h => ?_ | refine tU (fun h => ?_) fun h => ?_ | refine tV (fun h => ?_) fun h => ?_ | refine dqT ?_ | refine dqF ?_ | refine den_t rfl ?_ | refine den_f rfl ?_ | refine dqTn ?_ | refine dqFn ?_)
        · have hb1 : ¬ ht < 0 := by omega
          have hb2 : ¬ 1000 < ht := by omega
          have hb3 : ¬ 16 < (s.length : Int) := by omega
          repeat' (first | refine dq1 ?_ | refine dqc ?_ | refine dqm ?_ | refine dqk rfl (a1) ?_ | refine dqK rfl (a1) ?_ | refine dqk rfl (a2) ?_ | refine dqK rfl (a2) ?_ | refine dqk rfl (a3) ?_ | refine dqK rfl (a3) ?_ | refine dqk rfl (a4) ?_ | refine dqK rfl (a4) ?_ | refine dqk rfl (a5) ?_ | refine dqK rfl (a5) ?_ | refine dqk rfl (a6) ?_ | refine dqK rfl (a6) ?_ | exact den_ret rfl rfl | refine tR (fun h => ?_) fun h => ?_ | refine tB (fun h => ?_) fun h => ?_ | refine tC (fun h => ?_) fun h => ?_ | refine tN (fun h => ?_) fun h => ?_ | refine tF (fun h => ?_) fun h => ?_ | refine tG (fun h => ?_) fun h => ?_ | refine tP (fun h => ?_) fun h => ?_ | refine tQ (fun h => ?_) fun h => ?_ | refine tA (fun h => ?_) fun h => ?_ | refine tO (fun h => ?_) fun h => ?_ | refine tU (fun h => ?_) fun h => ?_ | refine tV (fun h => ?_) fun h => ?_ | refine dqT ?_ | refine dqF ?_ | refine den_t rfl ?_ | refine den_f rfl ?_ | refine dqTn ?_ | refine dqFn ?_)
          generalize hR : runOf l s ht = R at *
          (refine den_range (fun (_ : Unit) k => [I 0, I k]) (fun (_ : Unit) _ (_ : List Int) => true) (fun _ k => ∀ x ∈ s.take k, Fits x) () s ?_ ?_ ?_ ?_ ?_; rfl; exact (fun x hx => by simp at hx); omega)
          · rintro _ j x r hx hd hj hI again hag
            repeat' (first | refine dq1 ?_ | refine dqc ?_ | refine dqm ?_ | exact den_ret rfl rfl | refine tR (fun h => ?_) fun h => ?_ | refine tB (fun h => ?_) fun h => ?_ | refine tC (fun h => ?_) fun h => ?_ | refine tN (fun h => ?_) fun h => ?_ | refine tF (fun h => ?_) fun h => ?_ | refine tG (fun h => ?_) fun h => ?_ | refine tP (fun h => ?_) fun h => ?_ | refine tQ (fun h => ?_) fun h => ?_ | refine tA (fun h => ?_) fun h => ?_ | refine tO (fun h => ?_) fun h => ?_ | refine tU (fun h => ?_) fun h => ?_ | refine tV (fun h => ?_) fun h => ?_ | refine dqT ?_ | refine dqF ?_ | refine den_t rfl ?_ | refine den_f rfl ?_ | refine dqTn ?_ | refine dqFn ?_)
            by_cases hfx : Fits x
            · have hf' := fits_bd hfx
              repeat' (first | refine dq1 ?_ | refine dqc ?_ | refine dqm ?_ | exact den_ret rfl rfl | refine tR (fun h => ?_) fun h => ?_ | refine tB (fun h => ?_) fun h => ?_ | refine tC (fun h => ?_) fun h => ?_ | refine tN (fun h => ?_) fun h => ?_ | refine tF (fun h => ?_) fun h => ?_ | refine tG (fun h => ?_) fun h => ?_ | refine tP (fun h => ?_) fun h => ?_ | refine tQ (fun h => ?_) fun h => ?_ | refine tA (fun h => ?_) fun h => ?_ | refine tO (fun h => ?_) fun h => ?_ | refine tU (fun h => ?_) fun h => ?_ | refine tV (fun h => ?_) fun h => ?_ | refine dqT ?_ | refine dqF ?_ | refine den_t rfl ?_ | refine den_f rfl ?_ | refine dqTn ?_ | refine dqFn ?_)
              exact den_again rfl rfl (hag () (all_take' hI hx hfx))
            · have hR' : R = ([], 3) := by rw [← hR]; exact runOf_unfit hl (List.mem_of_getElem? hx) hfx
              subst hR'
              rcases fits_not hfx with hf' | hf'
              · repeat' (first | refine dq1 ?_ | refine dqc ?_ | refine dqm ?_ | exact den_ret rfl rfl | refine tR (fun h => ?_) fun h => ?_ | refine tB (fun h => ?_) fun h => ?_ | refine tC (fun h => ?_) fun h => ?_ | refine tN (fun h => ?_) fun h => ?_ | refine tF (fun h => ?_) fun h => ?_ | refine tG (fun h => ?_) fun h => ?_ | refine tP (fun h => ?_) fun h => ?_ | refine tQ (fun h => ?_) fun h => ?_ | refine tA (fun h => ?_) fun h => ?_ | refine tO (fun h => ?_) fun h => ?_ | refine tU (fun h => ?_) fun h => ?_ | refine tV (fun h => ?_) fun h => ?_ | refine dqT ?_ | refine dqF ?_ | refine den_t rfl ?_ | refine den_f rfl ?_ | refine dqTn ?_ | refine dqFn ?_)
              · have hf2 : ¬ x < -1000000 := by omega
                repeat' (first | refine dq1 ?_ | refine dqc ?_ | refine dqm ?_ | exact den_ret rfl rfl | refine tR (fun h => ?_) fun h => ?_ | refine tB (fun h => ?_) fun h => ?_ | refine tC (fun h => ?_) fun h => ?_ | refine tN (fun h => ?_) fun h => ?_ | refine tF (fun h => ?_) fun h => ?_ | refine tG (fun h => ?_) fun h => ?_ | refine tP (fun h => ?_) fun h => ?_ | refine tQ (fun h => ?_) fun h => ?_ | refine tA (fun h => ?_) fun h => ?_ | refine tO (fun h => ?_) fun h => ?_ | refine tU (fun h => ?_) fun h => ?_ | refine tV (fun h => ?_) fun h => ?_ | refine dqT ?_ | refine dqF ?_ | refine den_t rfl ?_ | refine den_f rfl ?_ | refine dqTn ?_ | refine dqFn ?_)
          · rintro _ hI again
            rw [List.take_length] at hI
            have hR' : R = ranOf (runM ht s l) := by rw [← hR]; exact runOf_ran hl (by omega) (by omega) ⟨by omega, hI⟩
            subst hR'
            have a8 := sp_rRunOps_at l s ht hl ⟨by omega, hI⟩
            generalize runM ht s l = r at *
            cases r with
            | none =>
              simp only [ranOf, ranR] at a8 ⊢
              repeat' (first | refine dq1 ?_ | refine dqc ?_ | refine dqm ?_ | refine dqk rfl (a8) ?_ | refine dqK rfl (a8) ?_ | exact den_ret rfl rfl | refine tR (fun h => ?_) fun h => ?_ | refine tB (fun h => ?_) fun h => ?_ | refine tC (fun h => ?_) fun h => ?_ | refine tN (fun h => ?_) fun h => ?_ | refine tF (fun h => ?_) fun h => ?_ | refine tG (fun h => ?_) fun h => ?_ | refine tP (fun h => ?_) fun h => ?_ | refine tQ (fun h => ?_) fun h => ?_ | refine tA (fun h => ?_) fun h => ?_ | refine tO (fun h => ?_) fun h => ?_ | refine tU (fun h => ?_) fun h => ?_ | refine tV (fun h => ?_) fun h => ?_ | refine dqT ?_ | refine dqF ?_ | refine den_t rfl ?_ | refine den_f rfl ?_ | refine dqTn ?_ | refine dqFn ?_)
            | some s' =>
              have a9 := sp_eqInts_at s' s'
              rw [decide_eq_true rfl] at a9
              simp only [ranOf, ranR] at a8 ⊢
              repeat' (first | refine dq1 ?_ | refine dqc ?_ | refine dqm ?_ | refine dqk rfl (a8) ?_ | refine dqK rfl (a8) ?_ | refine dqk rfl (a9) ?_ | refine dqK rfl (a9) ?_ | exact den_ret rfl rfl | refine tR (fun h => ?_) fun h => ?_ | refine tB (fun h => ?_) fun h => ?_ | refine tC (fun h => ?_) fun h => ?_ | refine tN (fun h => ?_) fun h => ?_ | refine tF (fun h => ?_) fun h => ?_ | refine tG (fun h => ?_) fun h => ?_ | refine tP (fun h => ?_) fun h => ?_ | refine tQ (fun h => ?_) fun h => ?_ | refine tA (fun h => ?_) fun h => ?_ | refine tO (fun h => ?_) fun h => ?_ | refine tU (fun h => ?_) fun h => ?_ | refine tV (fun h => ?_) fun h => ?_ | refine dqT ?_ | refine dqF ?_ | refine den_t rfl ?_ | refine den_f rfl ?_ | refine dqTn ?_ | refine dqFn ?_)
    · rw [openOf_l hl] at a2
      rw [runOf_l hl] at a1
      simp only at a1 a2
      repeat' (first | refine dq1 ?_ | refine dqc ?_ | refine dqm ?_ | refine dqk rfl (a1) ?_ | refine dqK rfl (a1) ?_ | refine dqk rfl (a2) ?_ | refine dqK rfl (a2) ?_ | refine dqk rfl (a3) ?_ | refine dqK rfl (a3) ?_ | refine dqk rfl (a4) ?_ | refine dqK rfl (a4) ?_ | refine dqk rfl (a5) ?_ | refine dqK rfl (a5) ?_ | refine dqk rfl (a6) ?_ | refine dqK rfl (a6) ?_ | exact den_ret rfl rfl | refine tR (fun h => ?_) fun h => ?_ | refine tB (fun h => ?_) fun h => ?_ | refine tC (fun h => ?_) fun h => ?_ | refine tN (fun h => ?_) fun h => ?_ | refine tF (fun h => ?_) fun h => ?_ | refine tG (fun h => ?_) fun h => ?_ | refine tP (fun h => ?_) fun h => ?_ | refine tQ (fun h => ?_) fun h => ?_ | refine tA (fun h => ?_) fun h => ?_ | refine tO (fun h => ?_) fun h => ?_ | refine tU (fun h => ?_) fun h => ?_ | refine tV (fun h => ?_) fun h => ?_ | refine dqT ?_ | refine dqF ?_ | refine den_t rfl ?_ | refine den_f rfl ?_ | refine dqTn ?_ | refine dqFn ?_)
theorem lockRun_walk (l : List (Op)) (A_l : Option Addr) (n_l c_l : Nat) (s : List (Int)) (A_s : Option Addr) (n_s c_s : Nat) (ht : Int) (k : List (Op)) (A_k : Option Addr) (n_k c_k : Nat) (w : World) (h_l : Rds shOp w (Lt w.heap.size) l A_l n_l c_l) (h_s : Rds shInt w (Lt w.heap.size) s A_s n_s c_s) (ht_0 : -9223372036854775808 ≤ ht) (ht_1 : ht ≤ 9223372036854775807) (h_k : Rds shOp w (Lt w.heap.size) k A_k n_k c_k) (hG : Glob w) :
    Calls Tryd.prog 3 #[.slice A_l n_l c_l, .slice A_s n_s c_s, .int .i64 ht, .slice A_k n_k c_k] w fun e w' => e = .returned (.bool true) ∧ Below w.heap.size w w' :=
  meets_calls (F := Lt w.heap.size) (us := [.slice A_l n_l c_l, .slice A_s n_s c_s, .int .i64 ht, .slice A_k n_k c_k]) rfl (en_of (fn := Tryd.f3) (by kernel_rfl) (by kernel_rfl) (by kernel_rfl)) m_lLockRun ⟨fun _ h => h, hG⟩ (spD_at (f := fun _ => true) (l, s, ht, k) trivial)
    (pks_mk_one (rds_rep she_op h_l) (pks_mk_one (rds_rep she_int h_s) (pks_mk_one (.i _ _ (wrap_i64 ⟨ht_0, ht_1⟩)) (pks_mk_one (rds_rep she_op h_k) pks_mk_nil))))
end Go.Proofs.YtajaacgchhmbjaaDoor
