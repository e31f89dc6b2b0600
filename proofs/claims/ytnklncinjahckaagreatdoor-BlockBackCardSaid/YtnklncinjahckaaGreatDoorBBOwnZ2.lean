/- Own texts, put together by wip/bundle.py: VL2, VL3, VS1, VLP, VL4, VB1, VB2, VB3, VS2, VS3, VL7, VS4, VB4, VR1, VC0, VEr, VC1, VB6, VU3, VU7. -/
import Derived.Test.YtnklncinjahckaaGreatDoorShelf3
import Derived.Lib.AppendIntMem
import Derived.Lib.SmallJoins
import Derived.Lib.FieldsLaws
import Derived.Test.YtnklncinjahckaaGreatDoorBBOwnB
import Derived.Test.YtnklncinjahckaaGreatDoorBBOwnC
import Derived.Test.YtnklncinjahckaaGreatDoorBBOwnR
import Derived.Test.YtnklncinjahckaaGreatDoorBBOwnS
import Derived.Test.YtnklncinjahckaaGreatDoorBBOwnV3
import Derived.Test.YtnklncinjahckaaGreatDoorBBOwnZ1
set_option linter.unusedVariables false
set_option linter.unusedSimpArgs false
namespace Go.Proofs.YtnklncinjahckaaGreatDoor
section
open Go.RowKit
set_option maxRecDepth 100000
set_option maxHeartbeats 8000000
attribute [local irreducible] z0o spD z1j zdo z2t
attribute [local irreducible] den denX z0y z1h
noncomputable def z81 : zd := spD (fun x : List Op × List Int × Int => True) fun x => z3w x.1 x.2.1 x.2.2
theorem zky (l : List Op) (s : List Int) (h : Int) : z81 [.l 2 (l.map eOp), .l 1 (s.map z15), I h] = some [.l 1 ((z3w l s h).1.map z15), I (z3w l s h).2] := zm (f := fun x : List Op × List Int × Int => z3w x.1 x.2.1 x.2.2) (l, s, h) trivial
theorem zeg (l : List Op) (s : List Int) (h : Int) (hs : s.length ≤ 1000000) : z81 [.l 2 (l.map eOp), .l 1 (s.map z15), I h] = some [.l 1 ((z3w l s h).1.map z15), I (z3w l s h).2] := zky l s h
def zxk : T :=
 .lets [.bin .gtr (.v 16) (.c (.i .i64 1000000))] [] (.ite (.v 18) (.ret [.c (.nil 1), .c (.i .i64 3)]) (.lets [.bin .add (.v 14) (.c (.i .i64 1))] [] (.again 0 [.v 12, .v 13, .v
 19])))
def zxl : T :=
 .lets [] [.inr 1 (.v 1) (.v 14)] (.lets [.idx (.v 1) (.v 14) 0] [] (.lets [.bin .lss (.v 16) (.c (.i .i64 (-1000000)))] [] (.ite (.v 17) (.ret [.c (.nil 1), .c (.i .i64 3)])
 zxk)))
def zxm : T :=
 .ite (.v 28) (.ret [.c (.nil 1), .c (.i .i64 8)]) (.lets [.mk 1 [[.v 23]]] [] (.lets [.app 1 (.v 17) (.v 29)] [] (.lets [.bin .add (.v 20) (.c (.i .i64 1))] [] (.again 1 [.v 30, .v
 18, .v 19, .v 31]))))
def zxn : T :=
 .lets [.bin .lss (.v 23) (.c (.i .i64 (-1000000)))] [] (.ite (.v 27) (.ret [.c (.nil 1), .c (.i .i64 8)]) (.lets [.bin .gtr (.v 23) (.c (.i .i64 1000000))] [] zxm))
def zxo : T :=
 .lets [.bin .gtr (.v 30) (.c (.i .i64 1000000))] [] (.ite (.v 39) (.ret [.c (.nil 1), .c (.i .i64 8)]) (.lets [.mk 1 [[.v 30]]] [] (.lets [.app 1 (.v 33) (.v 40)] [] (.ret [.c (.nil
 1), .c (.i .i64 8)]))))
def zxp : T :=
 .ite (.v 37) (.ret [.c (.nil 1), .c (.i .i64 8)]) (.lets [.bin .lss (.v 30) (.c (.i .i64 (-1000000)))] [] (.ite (.v 38) (.ret [.c (.nil 1), .c (.i .i64 8)]) zxo))
def zxq : T :=
 .lets [.bin .gtr (.v 30) (.c (.i .i64 1000000))] [] (.ite (.v 40) (.ret [.c (.nil 1), .c (.i .i64 8)]) (.lets [.mk 1 [[.v 30]]] [] (.lets [.app 1 (.v 33) (.v 41)] [] (.ret [.c (.nil
 1), .c (.i .i64 8)]))))
def zxr : T :=
 .ite (.v 38) (.ret [.c (.nil 1), .c (.i .i64 8)]) (.lets [.bin .lss (.v 30) (.c (.i .i64 (-1000000)))] [] (.ite (.v 39) (.ret [.c (.nil 1), .c (.i .i64 8)]) zxq))
def zxs : T :=
 .lets [.bin .gtr (.v 30) (.c (.i .i64 1000000))] [] (.ite (.v 41) (.ret [.c (.nil 1), .c (.i .i64 8)]) (.lets [.mk 1 [[.v 30]]] [] (.lets [.app 1 (.v 33) (.v 42)] [] (.ret [.c (.nil
 1), .c (.i .i64 8)]))))
def zxt : T :=
 .ite (.v 39) (.ret [.c (.nil 1), .c (.i .i64 8)]) (.lets [.bin .lss (.v 30) (.c (.i .i64 (-1000000)))] [] (.ite (.v 40) (.ret [.c (.nil 1), .c (.i .i64 8)]) zxs))
def zrh : T :=
 .ite (.v 43) (.ret [.c (.nil 1), .c (.i .i64 8)]) (.lets [.mk 1 [[.v 30]]] [] (.lets [.app 1 (.v 39) (.v 44)] [] (.lets [.bin .add (.v 20) (.c (.i .i64 1))] [] (.again 1 [.v 45, .v
 18, .v 19, .v 46]))))
def zri : T :=
 .lets [.bin .lss (.v 30) (.c (.i .i64 (-1000000)))] [] (.ite (.v 42) (.ret [.c (.nil 1), .c (.i .i64 8)]) (.lets [.bin .gtr (.v 30) (.c (.i .i64 1000000))] [] zrh))
def zrj : T :=
 .lets [.app 1 (.v 33) (.v 38)] [] (.lets [.len (.v 39)] [] (.lets [.bin .eql (.v 40) (.c (.i .i64 16))] [] (.ite (.v 41) (.ret [.c (.nil 1), .c (.i .i64 8)]) zri)))
def zrk : T :=
 .lets [.bin .gtr (.v 30) (.c (.i .i64 1000000))] [] (.ite (.v 37) (.lets [.len (.v 33)] [] (.lets [.bin .eql (.v 38) (.c (.i .i64 16))] [] zxt)) (.lets [.mk 1 [[.v 30]]] []
 zrj))
def zrl : T :=
 .lets [.bin .lss (.v 30) (.c (.i .i64 (-1000000)))] [] (.ite (.v 36) (.lets [.len (.v 33)] [] (.lets [.bin .eql (.v 37) (.c (.i .i64 16))] [] zxr)) zrk)
def zrm : T :=
 .lets [.bin .eql (.v 34) (.c (.i .i64 16))] [] (.ite (.v 35) (.lets [.len (.v 33)] [] (.lets [.bin .eql (.v 36) (.c (.i .i64 16))] [] zxp)) zrl)
def zrn : T :=
 .lets [.idx (.v 17) (.v 29) 0] [] (.lets [.len (.v 17)] [] (.lets [.bin .sub (.v 31) (.c (.i .i64 1))] [] (.lets [.sub 1 (.v 17) none (some (.v 32))] [] (.lets [.len (.v 33)] []
 zrm))))
def zro : T :=
 .ite (.v 27) (.ret [.c (.nil 1), .c (.i .i64 8)]) (.lets [.len (.v 17)] [] (.lets [.bin .sub (.v 28) (.c (.i .i64 1))] [] (.lets [] [.inr 1 (.v 17) (.v 29)] zrn)))
def zrp : T :=
 .lets [.idx (.v 17) (.v 32) 0] [] (.lets [.len (.v 17)] [] (.lets [.bin .sub (.v 34) (.c (.i .i64 1))] [] (.lets [.sub 1 (.v 17) none (some (.v 35))] [] (.ret [.c (.nil 1), .c (.i
 .i64 8)]))))
def zrq : T :=
 .ite (.v 30) (.ret [.c (.nil 1), .c (.i .i64 8)]) (.lets [.len (.v 17)] [] (.lets [.bin .sub (.v 31) (.c (.i .i64 1))] [] (.lets [] [.inr 1 (.v 17) (.v 32)] zrp)))
def zrr : T :=
 .lets [.bin .gtr (.v 39) (.c (.i .i64 1000000))] [] (.ite (.v 48) (.ret [.c (.nil 1), .c (.i .i64 8)]) (.lets [.mk 1 [[.v 39]]] [] (.lets [.app 1 (.v 42) (.v 49)] [] (.ret [.c (.nil
 1), .c (.i .i64 8)]))))
def zrs : T :=
 .ite (.v 46) (.ret [.c (.nil 1), .c (.i .i64 8)]) (.lets [.bin .lss (.v 39) (.c (.i .i64 (-1000000)))] [] (.ite (.v 47) (.ret [.c (.nil 1), .c (.i .i64 8)]) zrr))
def zrt : T :=
 .lets [.bin .gtr (.v 39) (.c (.i .i64 1000000))] [] (.ite (.v 49) (.ret [.c (.nil 1), .c (.i .i64 8)]) (.lets [.mk 1 [[.v 39]]] [] (.lets [.app 1 (.v 42) (.v 50)] [] (.ret [.c (.nil
 1), .c (.i .i64 8)]))))
def zru : T :=
 .ite (.v 47) (.ret [.c (.nil 1), .c (.i .i64 8)]) (.lets [.bin .lss (.v 39) (.c (.i .i64 (-1000000)))] [] (.ite (.v 48) (.ret [.c (.nil 1), .c (.i .i64 8)]) zrt))
def zrv : T :=
 .lets [.bin .gtr (.v 39) (.c (.i .i64 1000000))] [] (.ite (.v 50) (.ret [.c (.nil 1), .c (.i .i64 8)]) (.lets [.mk 1 [[.v 39]]] [] (.lets [.app 1 (.v 42) (.v 51)] [] (.ret [.c (.nil
 1), .c (.i .i64 8)]))))
def zrw : T :=
 .ite (.v 48) (.ret [.c (.nil 1), .c (.i .i64 8)]) (.lets [.bin .lss (.v 39) (.c (.i .i64 (-1000000)))] [] (.ite (.v 49) (.ret [.c (.nil 1), .c (.i .i64 8)]) zrv))
def zrx : T :=
 .ite (.v 52) (.ret [.c (.nil 1), .c (.i .i64 8)]) (.lets [.mk 1 [[.v 39]]] [] (.lets [.app 1 (.v 48) (.v 53)] [] (.lets [.bin .add (.v 20) (.c (.i .i64 1))] [] (.again 1 [.v 54, .v
 18, .v 19, .v 55]))))
def zry : T :=
 .lets [.bin .lss (.v 39) (.c (.i .i64 (-1000000)))] [] (.ite (.v 51) (.ret [.c (.nil 1), .c (.i .i64 8)]) (.lets [.bin .gtr (.v 39) (.c (.i .i64 1000000))] [] zrx))
def zrz : T :=
 .lets [.app 1 (.v 42) (.v 47)] [] (.lets [.len (.v 48)] [] (.lets [.bin .eql (.v 49) (.c (.i .i64 16))] [] (.ite (.v 50) (.ret [.c (.nil 1), .c (.i .i64 8)]) zry)))
def zs0 : T :=
 .lets [.bin .gtr (.v 31) (.c (.i .i64 1000000))] [] (.ite (.v 46) (.lets [.len (.v 42)] [] (.lets [.bin .eql (.v 47) (.c (.i .i64 16))] [] zrw)) (.lets [.mk 1 [[.v 31]]] []
 zrz))
def zs1 : T :=
 .lets [.bin .lss (.v 31) (.c (.i .i64 (-1000000)))] [] (.ite (.v 45) (.lets [.len (.v 42)] [] (.lets [.bin .eql (.v 46) (.c (.i .i64 16))] [] zru)) zs0)
def zs2 : T :=
 .lets [.bin .eql (.v 43) (.c (.i .i64 16))] [] (.ite (.v 44) (.lets [.len (.v 42)] [] (.lets [.bin .eql (.v 45) (.c (.i .i64 16))] [] zrs)) zs1)
def zs3 : T :=
 .lets [.idx (.v 34) (.v 38) 0] [] (.lets [.len (.v 34)] [] (.lets [.bin .sub (.v 40) (.c (.i .i64 1))] [] (.lets [.sub 1 (.v 34) none (some (.v 41))] [] (.lets [.len (.v 42)] []
 zs2))))
def zs4 : T :=
 .ite (.v 36) (.ret [.c (.nil 1), .c (.i .i64 8)]) (.lets [.len (.v 34)] [] (.lets [.bin .sub (.v 37) (.c (.i .i64 1))] [] (.lets [] [.inr 1 (.v 34) (.v 38)] zs3)))
def zs5 : T :=
 .lets [.bin .sub (.v 32) (.c (.i .i64 1))] [] (.lets [.sub 1 (.v 17) none (some (.v 33))] [] (.lets [.len (.v 34)] [] (.lets [.bin .eql (.v 35) (.c (.i .i64 0))] [] zs4)))
def zs6 : T :=
 .lets [.len (.v 17)] [] (.lets [.bin .sub (.v 29) (.c (.i .i64 1))] [] (.lets [] [.inr 1 (.v 17) (.v 30)] (.lets [.idx (.v 17) (.v 30) 0] [] (.lets [.len (.v 17)] []
 zs5))))
def zs7 : T :=
 .lets [.len (.v 17)] [] (.lets [.bin .eql (.v 27) (.c (.i .i64 0))] [] (.ite (.v 28) (.lets [.len (.v 17)] [] (.lets [.bin .eql (.v 29) (.c (.i .i64 0))] [] zrq))
 zs6))
def zs8 : T :=
 .lets [.bin .sub (.v 33) (.c (.i .i64 1))] [] (.lets [.sub 1 (.v 17) none (some (.v 34))] [] (.lets [.bin .add (.v 20) (.c (.i .i64 1))] [] (.again 1 [.v 35, .v 18, .v 19, .v 36])))
def zs9 : T :=
 .lets [.len (.v 17)] [] (.lets [.bin .sub (.v 30) (.c (.i .i64 1))] [] (.lets [] [.inr 1 (.v 17) (.v 31)] (.lets [.idx (.v 17) (.v 31) 0] [] (.lets [.len (.v 17)] []
 zs8))))
def zsa : T :=
 .lets [.idx (.v 17) (.v 34) 0] [] (.lets [.len (.v 17)] [] (.lets [.bin .sub (.v 36) (.c (.i .i64 1))] [] (.lets [.sub 1 (.v 17) none (some (.v 37))] [] (.ret [.c (.nil 1), .c (.i
 .i64 8)]))))
def zsb : T :=
 .ite (.v 32) (.ret [.c (.nil 1), .c (.i .i64 8)]) (.lets [.len (.v 17)] [] (.lets [.bin .sub (.v 33) (.c (.i .i64 1))] [] (.lets [] [.inr 1 (.v 17) (.v 34)] zsa)))
def zsc : T :=
 .ite (.v 49) (.ret [.c (.nil 1), .c (.i .i64 8)]) (.lets [.mk 1 [[.v 45]]] [] (.lets [.app 1 (.v 44) (.v 50)] [] (.lets [.bin .add (.v 20) (.c (.i .i64 1))] [] (.again 1 [.v 51, .v
 18, .v 19, .v 52]))))
def zsd : T :=
 .lets [.bin .lss (.v 45) (.c (.i .i64 (-1000000)))] [] (.ite (.v 48) (.ret [.c (.nil 1), .c (.i .i64 8)]) (.lets [.bin .gtr (.v 45) (.c (.i .i64 1000000))] [] zsc))
def zse : T :=
 .lets [.call 29 [.v 41, .v 33] 0] [] (.lets [.len (.v 44)] [] (.lets [.bin .eql (.v 46) (.c (.i .i64 16))] [] (.ite (.v 47) (.ret [.c (.nil 1), .c (.i .i64 8)]) zsd)))
def zsf : T :=
 .lets [.idx (.v 36) (.v 40) 0] [] (.lets [.len (.v 36)] [] (.lets [.bin .sub (.v 42) (.c (.i .i64 1))] [] (.lets [.sub 1 (.v 36) none (some (.v 43))] [] zse)))
def zsg : T :=
 .ite (.v 38) (.ret [.c (.nil 1), .c (.i .i64 8)]) (.lets [.len (.v 36)] [] (.lets [.bin .sub (.v 39) (.c (.i .i64 1))] [] (.lets [] [.inr 1 (.v 36) (.v 40)] zsf)))
def zsh : T :=
 .lets [.bin .sub (.v 34) (.c (.i .i64 1))] [] (.lets [.sub 1 (.v 17) none (some (.v 35))] [] (.lets [.len (.v 36)] [] (.lets [.bin .eql (.v 37) (.c (.i .i64 0))] [] zsg)))
def zsi : T :=
 .lets [.len (.v 17)] [] (.lets [.bin .sub (.v 31) (.c (.i .i64 1))] [] (.lets [] [.inr 1 (.v 17) (.v 32)] (.lets [.idx (.v 17) (.v 32) 0] [] (.lets [.len (.v 17)] []
 zsh))))
def zsj : T :=
 .lets [.len (.v 17)] [] (.lets [.bin .eql (.v 29) (.c (.i .i64 0))] [] (.ite (.v 30) (.lets [.len (.v 17)] [] (.lets [.bin .eql (.v 31) (.c (.i .i64 0))] [] zsb))
 zsi))
def zsk : T :=
 .lets [.idx (.v 17) (.v 35) 0] [] (.lets [.len (.v 17)] [] (.lets [.bin .sub (.v 37) (.c (.i .i64 1))] [] (.lets [.sub 1 (.v 17) none (some (.v 38))] [] (.ret [.c (.nil 1), .c (.i
 .i64 8)]))))
def zsl : T :=
 .ite (.v 33) (.ret [.c (.nil 1), .c (.i .i64 8)]) (.lets [.len (.v 17)] [] (.lets [.bin .sub (.v 34) (.c (.i .i64 1))] [] (.lets [] [.inr 1 (.v 17) (.v 35)] zsk)))
def zsm : T :=
 .ite (.v 50) (.ret [.c (.nil 1), .c (.i .i64 8)]) (.lets [.mk 1 [[.v 46]]] [] (.lets [.app 1 (.v 45) (.v 51)] [] (.lets [.bin .add (.v 20) (.c (.i .i64 1))] [] (.again 1 [.v 52, .v
 18, .v 19, .v 53]))))
def zsn : T :=
 .lets [.bin .lss (.v 46) (.c (.i .i64 (-1000000)))] [] (.ite (.v 49) (.ret [.c (.nil 1), .c (.i .i64 8)]) (.lets [.bin .gtr (.v 46) (.c (.i .i64 1000000))] [] zsm))
def zso : T :=
 .lets [.call 30 [.v 42, .v 34] 0] [] (.lets [.len (.v 45)] [] (.lets [.bin .eql (.v 47) (.c (.i .i64 16))] [] (.ite (.v 48) (.ret [.c (.nil 1), .c (.i .i64 8)]) zsn)))
def zsp : T :=
 .lets [.idx (.v 37) (.v 41) 0] [] (.lets [.len (.v 37)] [] (.lets [.bin .sub (.v 43) (.c (.i .i64 1))] [] (.lets [.sub 1 (.v 37) none (some (.v 44))] [] zso)))
def zsq : T :=
 .ite (.v 39) (.ret [.c (.nil 1), .c (.i .i64 8)]) (.lets [.len (.v 37)] [] (.lets [.bin .sub (.v 40) (.c (.i .i64 1))] [] (.lets [] [.inr 1 (.v 37) (.v 41)] zsp)))
def zsr : T :=
 .lets [.bin .sub (.v 35) (.c (.i .i64 1))] [] (.lets [.sub 1 (.v 17) none (some (.v 36))] [] (.lets [.len (.v 37)] [] (.lets [.bin .eql (.v 38) (.c (.i .i64 0))] [] zsq)))
def zss : T :=
 .lets [.len (.v 17)] [] (.lets [.bin .sub (.v 32) (.c (.i .i64 1))] [] (.lets [] [.inr 1 (.v 17) (.v 33)] (.lets [.idx (.v 17) (.v 33) 0] [] (.lets [.len (.v 17)] []
 zsr))))
def zst : T :=
 .lets [.len (.v 17)] [] (.lets [.bin .eql (.v 30) (.c (.i .i64 0))] [] (.ite (.v 31) (.lets [.len (.v 17)] [] (.lets [.bin .eql (.v 32) (.c (.i .i64 0))] [] zsl))
 zss))
def zsu : T :=
 .lets [.idx (.v 17) (.v 36) 0] [] (.lets [.len (.v 17)] [] (.lets [.bin .sub (.v 38) (.c (.i .i64 1))] [] (.lets [.sub 1 (.v 17) none (some (.v 39))] [] (.ret [.c (.nil 1), .c (.i
 .i64 8)]))))
def zsv : T :=
 .ite (.v 34) (.ret [.c (.nil 1), .c (.i .i64 8)]) (.lets [.len (.v 17)] [] (.lets [.bin .sub (.v 35) (.c (.i .i64 1))] [] (.lets [] [.inr 1 (.v 17) (.v 36)] zsu)))
def zsw : T :=
 .ite (.v 51) (.ret [.c (.nil 1), .c (.i .i64 8)]) (.lets [.mk 1 [[.v 47]]] [] (.lets [.app 1 (.v 46) (.v 52)] [] (.lets [.bin .add (.v 20) (.c (.i .i64 1))] [] (.again 1 [.v 53, .v
 18, .v 19, .v 54]))))
def zsx : T :=
 .lets [.bin .lss (.v 47) (.c (.i .i64 (-1000000)))] [] (.ite (.v 50) (.ret [.c (.nil 1), .c (.i .i64 8)]) (.lets [.bin .gtr (.v 47) (.c (.i .i64 1000000))] [] zsw))
def zsy : T :=
 .lets [.call 31 [.v 43, .v 35] 0] [] (.lets [.len (.v 46)] [] (.lets [.bin .eql (.v 48) (.c (.i .i64 16))] [] (.ite (.v 49) (.ret [.c (.nil 1), .c (.i .i64 8)]) zsx)))
def zsz : T :=
 .lets [.idx (.v 38) (.v 42) 0] [] (.lets [.len (.v 38)] [] (.lets [.bin .sub (.v 44) (.c (.i .i64 1))] [] (.lets [.sub 1 (.v 38) none (some (.v 45))] [] zsy)))
def zt0 : T :=
 .ite (.v 40) (.ret [.c (.nil 1), .c (.i .i64 8)]) (.lets [.len (.v 38)] [] (.lets [.bin .sub (.v 41) (.c (.i .i64 1))] [] (.lets [] [.inr 1 (.v 38) (.v 42)] zsz)))
def zt1 : T :=
 .lets [.bin .sub (.v 36) (.c (.i .i64 1))] [] (.lets [.sub 1 (.v 17) none (some (.v 37))] [] (.lets [.len (.v 38)] [] (.lets [.bin .eql (.v 39) (.c (.i .i64 0))] [] zt0)))
def zt2 : T :=
 .lets [.len (.v 17)] [] (.lets [.bin .sub (.v 33) (.c (.i .i64 1))] [] (.lets [] [.inr 1 (.v 17) (.v 34)] (.lets [.idx (.v 17) (.v 34) 0] [] (.lets [.len (.v 17)] []
 zt1))))
def zt3 : T :=
 .lets [.len (.v 17)] [] (.lets [.bin .eql (.v 31) (.c (.i .i64 0))] [] (.ite (.v 32) (.lets [.len (.v 17)] [] (.lets [.bin .eql (.v 33) (.c (.i .i64 0))] [] zsv))
 zt2))
def zt4 : T :=
 .lets [.idx (.v 17) (.v 37) 0] [] (.lets [.len (.v 17)] [] (.lets [.bin .sub (.v 39) (.c (.i .i64 1))] [] (.lets [.sub 1 (.v 17) none (some (.v 40))] [] (.ret [.c (.nil 1), .c (.i
 .i64 8)]))))
def zt5 : T :=
 .ite (.v 35) (.ret [.c (.nil 1), .c (.i .i64 8)]) (.lets [.len (.v 17)] [] (.lets [.bin .sub (.v 36) (.c (.i .i64 1))] [] (.lets [] [.inr 1 (.v 17) (.v 37)] zt4)))
def zt6 : T :=
 .ite (.v 52) (.ret [.c (.nil 1), .c (.i .i64 8)]) (.lets [.mk 1 [[.v 48]]] [] (.lets [.app 1 (.v 47) (.v 53)] [] (.lets [.bin .add (.v 20) (.c (.i .i64 1))] [] (.again 1 [.v 54, .v
 18, .v 19, .v 55]))))
def zt7 : T :=
 .lets [.bin .lss (.v 48) (.c (.i .i64 (-1000000)))] [] (.ite (.v 51) (.ret [.c (.nil 1), .c (.i .i64 8)]) (.lets [.bin .gtr (.v 48) (.c (.i .i64 1000000))] [] zt6))
def zt8 : T :=
 .lets [.call 32 [.v 44, .v 36] 0] [] (.lets [.len (.v 47)] [] (.lets [.bin .eql (.v 49) (.c (.i .i64 16))] [] (.ite (.v 50) (.ret [.c (.nil 1), .c (.i .i64 8)]) zt7)))
def zt9 : T :=
 .lets [.idx (.v 39) (.v 43) 0] [] (.lets [.len (.v 39)] [] (.lets [.bin .sub (.v 45) (.c (.i .i64 1))] [] (.lets [.sub 1 (.v 39) none (some (.v 46))] [] zt8)))
def zta : T :=
 .ite (.v 41) (.ret [.c (.nil 1), .c (.i .i64 8)]) (.lets [.len (.v 39)] [] (.lets [.bin .sub (.v 42) (.c (.i .i64 1))] [] (.lets [] [.inr 1 (.v 39) (.v 43)] zt9)))
def ztb : T :=
 .lets [.bin .sub (.v 37) (.c (.i .i64 1))] [] (.lets [.sub 1 (.v 17) none (some (.v 38))] [] (.lets [.len (.v 39)] [] (.lets [.bin .eql (.v 40) (.c (.i .i64 0))] [] zta)))
def ztc : T :=
 .lets [.len (.v 17)] [] (.lets [.bin .sub (.v 34) (.c (.i .i64 1))] [] (.lets [] [.inr 1 (.v 17) (.v 35)] (.lets [.idx (.v 17) (.v 35) 0] [] (.lets [.len (.v 17)] []
 ztb))))
def ztd : T :=
 .lets [.len (.v 17)] [] (.lets [.bin .eql (.v 32) (.c (.i .i64 0))] [] (.ite (.v 33) (.lets [.len (.v 17)] [] (.lets [.bin .eql (.v 34) (.c (.i .i64 0))] [] zt5))
 ztc))
def zte : T :=
 .lets [.idx (.v 17) (.v 38) 0] [] (.lets [.len (.v 17)] [] (.lets [.bin .sub (.v 40) (.c (.i .i64 1))] [] (.lets [.sub 1 (.v 17) none (some (.v 41))] [] (.ret [.c (.nil 1), .c (.i
 .i64 8)]))))
def ztf : T :=
 .ite (.v 36) (.ret [.c (.nil 1), .c (.i .i64 8)]) (.lets [.len (.v 17)] [] (.lets [.bin .sub (.v 37) (.c (.i .i64 1))] [] (.lets [] [.inr 1 (.v 17) (.v 38)] zte)))
def ztg : T :=
 .ite (.v 53) (.ret [.c (.nil 1), .c (.i .i64 8)]) (.lets [.mk 1 [[.v 49]]] [] (.lets [.app 1 (.v 48) (.v 54)] [] (.lets [.bin .add (.v 20) (.c (.i .i64 1))] [] (.again 1 [.v 55, .v
 18, .v 19, .v 56]))))
def zth : T :=
 .lets [.bin .lss (.v 49) (.c (.i .i64 (-1000000)))] [] (.ite (.v 52) (.ret [.c (.nil 1), .c (.i .i64 8)]) (.lets [.bin .gtr (.v 49) (.c (.i .i64 1000000))] [] ztg))
def zti : T :=
 .lets [.call 33 [.v 45, .v 37] 0] [] (.lets [.len (.v 48)] [] (.lets [.bin .eql (.v 50) (.c (.i .i64 16))] [] (.ite (.v 51) (.ret [.c (.nil 1), .c (.i .i64 8)]) zth)))
def ztj : T :=
 .lets [.idx (.v 40) (.v 44) 0] [] (.lets [.len (.v 40)] [] (.lets [.bin .sub (.v 46) (.c (.i .i64 1))] [] (.lets [.sub 1 (.v 40) none (some (.v 47))] [] zti)))
def ztk : T :=
 .ite (.v 42) (.ret [.c (.nil 1), .c (.i .i64 8)]) (.lets [.len (.v 40)] [] (.lets [.bin .sub (.v 43) (.c (.i .i64 1))] [] (.lets [] [.inr 1 (.v 40) (.v 44)] ztj)))
def ztl : T :=
 .lets [.bin .sub (.v 38) (.c (.i .i64 1))] [] (.lets [.sub 1 (.v 17) none (some (.v 39))] [] (.lets [.len (.v 40)] [] (.lets [.bin .eql (.v 41) (.c (.i .i64 0))] [] ztk)))
def ztm : T :=
 .lets [.len (.v 17)] [] (.lets [.bin .sub (.v 35) (.c (.i .i64 1))] [] (.lets [] [.inr 1 (.v 17) (.v 36)] (.lets [.idx (.v 17) (.v 36) 0] [] (.lets [.len (.v 17)] []
 ztl))))
def ztn : T :=
 .lets [.len (.v 17)] [] (.lets [.bin .eql (.v 33) (.c (.i .i64 0))] [] (.ite (.v 34) (.lets [.len (.v 17)] [] (.lets [.bin .eql (.v 35) (.c (.i .i64 0))] [] ztf))
 ztm))
def zto : T :=
 .ite (.v 46) (.ret [.c (.nil 1), .c (.i .i64 8)]) (.lets [.mk 1 [[.v 42]]] [] (.lets [.app 1 (.v 41) (.v 47)] [] (.lets [.bin .add (.v 20) (.c (.i .i64 1))] [] (.again 1 [.v 48, .v
 18, .v 19, .v 49]))))
def ztp : T :=
 .lets [.bin .lss (.v 42) (.c (.i .i64 (-1000000)))] [] (.ite (.v 45) (.ret [.c (.nil 1), .c (.i .i64 8)]) (.lets [.bin .gtr (.v 42) (.c (.i .i64 1000000))] [] zto))
def ztq : T :=
 .lets [.call 34 [.v 38] 0] [] (.lets [.len (.v 41)] [] (.lets [.bin .eql (.v 43) (.c (.i .i64 16))] [] (.ite (.v 44) (.ret [.c (.nil 1), .c (.i .i64 8)]) ztp)))
def ztr : T :=
 .lets [.idx (.v 17) (.v 37) 0] [] (.lets [.len (.v 17)] [] (.lets [.bin .sub (.v 39) (.c (.i .i64 1))] [] (.lets [.sub 1 (.v 17) none (some (.v 40))] [] ztq)))
def zts : T :=
 .ite (.v 35) (.ret [.c (.nil 1), .c (.i .i64 8)]) (.lets [.len (.v 17)] [] (.lets [.bin .sub (.v 36) (.c (.i .i64 1))] [] (.lets [] [.inr 1 (.v 17) (.v 37)] ztr)))
def ztt : T :=
 .ite (.v 47) (.ret [.c (.nil 1), .c (.i .i64 8)]) (.lets [.mk 1 [[.v 43]]] [] (.lets [.app 1 (.v 42) (.v 48)] [] (.lets [.bin .add (.v 20) (.c (.i .i64 1))] [] (.again 1 [.v 49, .v
 18, .v 19, .v 50]))))
def ztu : T :=
 .lets [.bin .lss (.v 43) (.c (.i .i64 (-1000000)))] [] (.ite (.v 46) (.ret [.c (.nil 1), .c (.i .i64 8)]) (.lets [.bin .gtr (.v 43) (.c (.i .i64 1000000))] [] ztt))
def ztv : T :=
 .lets [.call 36 [.v 39] 0] [] (.lets [.len (.v 42)] [] (.lets [.bin .eql (.v 44) (.c (.i .i64 16))] [] (.ite (.v 45) (.ret [.c (.nil 1), .c (.i .i64 8)]) ztu)))
def ztw : T :=
 .lets [.idx (.v 17) (.v 38) 0] [] (.lets [.len (.v 17)] [] (.lets [.bin .sub (.v 40) (.c (.i .i64 1))] [] (.lets [.sub 1 (.v 17) none (some (.v 41))] [] ztv)))
def ztx : T :=
 .ite (.v 36) (.ret [.c (.nil 1), .c (.i .i64 8)]) (.lets [.len (.v 17)] [] (.lets [.bin .sub (.v 37) (.c (.i .i64 1))] [] (.lets [] [.inr 1 (.v 17) (.v 38)] ztw)))
def zty : T :=
 .lets [.bin .eql (.v 40) (.c (.i .i64 0))] [] (.ite (.v 44) (.ret [.c (.nil 1), .c (.i .i64 8)]) (.lets [.bin .add (.v 20) (.c (.i .i64 1))] [] (.again 1 [.v 43, .v 18, .v 19, .v
 45])))
def zo0 : T :=
 .lets [.idx (.v 17) (.v 39) 0] [] (.lets [.len (.v 17)] [] (.lets [.bin .sub (.v 41) (.c (.i .i64 1))] [] (.lets [.sub 1 (.v 17) none (some (.v 42))] [] zty)))
def zo1 : T :=
 .ite (.v 37) (.ret [.c (.nil 1), .c (.i .i64 8)]) (.lets [.len (.v 17)] [] (.lets [.bin .sub (.v 38) (.c (.i .i64 1))] [] (.lets [] [.inr 1 (.v 17) (.v 39)] zo0)))
def zo2 : T :=
 .ite (.v 40) (.ret [.c (.nil 1), .c (.i .i64 8)]) (.lets [.mk 1 [[.v 2]]] [] (.lets [.app 1 (.v 17) (.v 41)] [] (.lets [.bin .add (.v 20) (.c (.i .i64 1))] [] (.again 1 [.v 42, .v
 18, .v 19, .v 43]))))
def zo3 : T :=
 .lets [.bin .lss (.v 2) (.c (.i .i64 (-1000000)))] [] (.ite (.v 39) (.ret [.c (.nil 1), .c (.i .i64 8)]) (.lets [.bin .gtr (.v 2) (.c (.i .i64 1000000))] [] zo2))
def zo4 : T :=
 .ite (.v 36) (.lets [.len (.v 17)] [] (.lets [.bin .eql (.v 37) (.c (.i .i64 16))] [] (.ite (.v 38) (.ret [.c (.nil 1), .c (.i .i64 8)]) zo3))) (.lets [.bin .add (.v 20)
 (.c (.i .i64 1))] [] (.again 1 [.v 17, .v 18, .v 19, .v 37]))
def zo5 : T :=
 .ite (.v 35) (.lets [.len (.v 17)] [] (.lets [.bin .eql (.v 36) (.c (.i .i64 0))] [] zo1)) (.lets [.bin .eql (.v 22) (.c (.i .i64 12))] [] zo4)
def zo6 : T :=
 .ite (.v 34) (.lets [.len (.v 17)] [] (.lets [.bin .eql (.v 35) (.c (.i .i64 0))] [] ztx)) (.lets [.bin .eql (.v 22) (.c (.i .i64 11))] [] zo5)
def zo7 : T :=
 .ite (.v 33) (.lets [.len (.v 17)] [] (.lets [.bin .eql (.v 34) (.c (.i .i64 0))] [] zts)) (.lets [.bin .eql (.v 22) (.c (.i .i64 13))] [] zo6)
def zo8 : T :=
 .ite (.v 31) ztd (.lets [.bin .eql (.v 22) (.c (.i .i64 10))] [] (.ite (.v 32) ztn (.lets [.bin .eql (.v 22) (.c (.i .i64 9))] [] zo7)))
def zo9 : T :=
 .ite (.v 29) zst (.lets [.bin .eql (.v 22) (.c (.i .i64 7))] [] (.ite (.v 30) zt3 (.lets [.bin .eql (.v 22) (.c (.i .i64 8))] [] zo8)))
def zoa : T :=
 .ite (.v 27) (.lets [.len (.v 17)] [] (.lets [.bin .eql (.v 28) (.c (.i .i64 0))] [] (.ite (.v 29) (.ret [.c (.nil 1), .c (.i .i64 8)]) zs9))) (.lets [.bin .eql (.v 22) (.c
 (.i .i64 5))] [] (.ite (.v 28) zsj (.lets [.bin .eql (.v 22) (.c (.i .i64 6))] [] zo9)))
def zob : T :=
 .ite (.v 25) (.lets [.len (.v 17)] [] (.lets [.bin .eql (.v 26) (.c (.i .i64 0))] [] zro)) (.lets [.bin .eql (.v 22) (.c (.i .i64 3))] [] (.ite (.v 26) zs7 (.lets
 [.bin .eql (.v 22) (.c (.i .i64 4))] [] zoa)))
def zoc : T :=
 .ite (.v 24) (.lets [.len (.v 17)] [] (.lets [.bin .eql (.v 25) (.c (.i .i64 16))] [] (.ite (.v 26) (.ret [.c (.nil 1), .c (.i .i64 8)]) zxn))) (.lets [.bin .eql (.v 22) (.c
 (.i .i64 2))] [] zob)
def zod : T :=
 .ite (.v 21) (.lets [] [.inr 2 (.v 0) (.v 20)] (.lets [.idx (.v 0) (.v 20) 0, .idx (.v 0) (.v 20) 1] [] (.lets [.bin .eql (.v 22) (.c (.i .i64 1))] [] zoc))) (.ret [.v 17,
 .c (.i .i64 0)])
def zoe : T :=
 .lets [.bin .lss (.v 14) (.v 11)] [] (.ite (.v 15) zxl (.lets [.len (.v 0)] [] (.loop [.v 10, .v 12, .v 13, .c (.i .i64 0)] (.lets [.bin .lss (.v 20) (.v 16)] []
 zod))))
def zof : T :=
 .ite (.v 8) (.ret [.c (.nil 1), .c (.i .i64 3)]) (.lets [.mk 1 []] [] (.lets [.app 1 (.v 9) (.v 1)] [] (.lets [.len (.v 1)] [] (.loop [.c (.nil 1), .c (.i .i64 0), .c (.i .i64 0)]
 zoe))))
def zog : T :=
 .lets [.bin .gtr (.v 2) (.c (.i .i64 1000))] [] (.ite (.v 6) (.ret [.c (.nil 1), .c (.i .i64 3)]) (.lets [.len (.v 1)] [] (.lets [.bin .gtr (.v 7) (.c (.i .i64 16))] []
 zof)))
def zoh : T :=
 .lets [.bin .neq (.v 3) (.c (.i .i64 0))] [] (.ite (.v 4) (.ret [.c (.nil 1), .v 3]) (.lets [.bin .lss (.v 2) (.c (.i .i64 0))] [] (.ite (.v 5) (.ret [.c (.nil 1), .c (.i .i64 3)])
 zog)))
def zfn : T :=
 .lets [.call 7 [.v 0] 0] [] zoh
attribute [local irreducible] z0u z80 zcn zcp zav zcq zau zco
theorem z04d : Meets Tryz.prog z81 161 ⟨[.one, .one, .one], [(false, [.fresh 3 1]), (false, [.scal])], false⟩ := by
 refine zbg (sp := (z0i [(7, z0u), (29, zcn), (30, zco), (31, zau), (32, zav), (33, zcp), (34, zcq), (36, z80)])) (sigs := z0q) (cut := []) (hints := [⟨8, [.r 6 3 1, .t 7, .t 38]⟩, ⟨14, [.c 35 0 360, .r 6 3 1, .t 7, .t 51, .o 32, .z 34, .z 32]⟩]) (fns := [zbu 178 Tryz.f178 [] [], zbu 194 Tryz.f194 [] [35], zbu 195 Tryz.f195 [] [], zbu 205 Tryz.f205 [] [], zbu 193 Tryz.f193 [] [], zbu 196 Tryz.f196 [] []]) (dep := 6) (pool := 300) (fn := Tryz.f161) (t := zfn) (by kernel_rfl) (by kernel_rfl) (by kernel_rfl) ?_ ?_ ?_
 ·exact (z37 (fn := Tryz.f178) (by kernel_rfl) (by kernel_rfl) (by kernel_rfl) (by kernel_rfl) (by kernel_rfl) (z37 (fn := Tryz.f194) (by kernel_rfl) (by kernel_rfl) (by kernel_rfl) (by kernel_rfl) (by kernel_rfl) (z37 (fn := Tryz.f195) (by kernel_rfl) (by kernel_rfl) (by kernel_rfl) (by kernel_rfl) (by kernel_rfl) (z37 (fn := Tryz.f205) (by kernel_rfl) (by kernel_rfl) (by kernel_rfl) (by kernel_rfl) (by kernel_rfl) (z37 (fn := Tryz.f193) (by kernel_rfl) (by kernel_rfl) (by kernel_rfl) (by kernel_rfl) (by kernel_rfl) (z37 (fn := Tryz.f196) (by kernel_rfl) (by kernel_rfl) (by kernel_rfl) (by kernel_rfl) (by kernel_rfl) zde))))))
 ·exact (z07 (L := [(7, z0u), (29, zcn), (30, zco), (31, zau), (32, zav), (33, zcp), (34, zcq), (36, z80)]) ⟨za rfl z6f, za rfl z0c2, za rfl z0c3, za rfl z09s, za rfl z09t, za rfl z0c5, za rfl z0c4, za rfl z04c, trivial⟩)
 ·rintro ds rs - h
  obtain ⟨⟨l, s0, ht⟩, -, rfl, rfl⟩ := zq h
  clear h
  refine ⟨⟨l.length + s0.length + 1, ?_⟩, ?_⟩
  ·show den _ _ zfn [.l 2 (l.map eOp), .l 1 (s0.map z15), I ht] [] = ret (z3w l s0 ht)
   unfold zfn z3w
   repeat' (first | refine dq1 ?_ | refine dqc ?_ | refine dqm ?_ | refine dqK rfl (z3v _) ?_ | exact z4 rfl rfl | ((first | refine tR ?_ ?_ | refine tB ?_ ?_ | refine tC ?_ ?_ | refine tN ?_ ?_ | refine tF ?_ ?_ | refine tG ?_ ?_ | refine tP ?_ ?_ | refine tQ ?_ ?_ | refine tA ?_ ?_ | refine tO ?_ ?_ | refine tU ?_ ?_ | refine tV ?_ ?_) <;> intro h) | refine dqT ?_ | refine dqF ?_ | refine z6 rfl ?_ | refine z5 rfl ?_ | refine z8 ?_ | refine z9 ?_)
   have hc0 : zf l = 0 := Decidable.not_not.1 (by assumption)
   refine z7 (z29 (r := []) rfl rfl (by simp)) ?_
   refine z7 (zr3 (l := ([] : List Int)) (l' := s0) (f := z15) rfl rfl (by simp; omega)) ?_
   repeat' (first | refine dq1 ?_ | refine dqc ?_ | refine dqm ?_ | exact z4 rfl rfl | ((first | refine tR ?_ ?_ | refine tB ?_ ?_ | refine tC ?_ ?_ | refine tN ?_ ?_ | refine tF ?_ ?_ | refine tG ?_ ?_ | refine tP ?_ ?_ | refine tQ ?_ ?_ | refine tA ?_ ?_ | refine tO ?_ ?_ | refine tU ?_ ?_ | refine tV ?_ ?_) <;> intro h) | refine dqT ?_ | refine dqF ?_ | refine z6 rfl ?_ | refine z5 rfl ?_ | refine z8 ?_ | refine z9 ?_)
   (refine z09 (fun (_ : Unit) k => [.l 1 (([] : List Int).map z15), I 0, I k]) (fun (_ : Unit) _ (r : List Int) => if ∀ x ∈ r, z31 x then (match z9g ht s0 l with | none => (([] : List Int), (8 : Int)) | some s' => (s', 0)) else (([] : List Int), (3 : Int))) (fun _ k => ∀ x ∈ s0.take k, z31 x) () s0 ?_ ?_ ?_ ?_ ?_; rfl; exact (fun x hx => by simp at hx); omega)
   ·rintro _ k x r hx hd hk hp again hag
    repeat' (first | refine dq1 ?_ | refine dqc ?_ | refine dqm ?_ | exact z4 rfl rfl | ((first | refine tR ?_ ?_ | refine tB ?_ ?_ | refine tC ?_ ?_ | refine tN ?_ ?_ | refine tF ?_ ?_ | refine tG ?_ ?_ | refine tP ?_ ?_ | refine tQ ?_ ?_ | refine tA ?_ ?_ | refine tO ?_ ?_ | refine tU ?_ ?_ | refine tV ?_ ?_) <;> intro h) | refine dqT ?_ | refine dqF ?_ | refine z6 rfl ?_ | refine z5 rfl ?_ | refine z8 ?_ | refine z9 ?_)
    refine z4o rfl (fun h => ?_) (fun h => ?_)
    ·rw [if_neg (fun hh => by have := (hh x (List.mem_cons_self ..)).1; omega)]
     repeat' (first | refine dq1 ?_ | refine dqc ?_ | refine dqm ?_ | exact z4 rfl rfl | ((first | refine tR ?_ ?_ | refine tB ?_ ?_ | refine tC ?_ ?_ | refine tN ?_ ?_ | refine tF ?_ ?_ | refine tG ?_ ?_ | refine tP ?_ ?_ | refine tQ ?_ ?_ | refine tA ?_ ?_ | refine tO ?_ ?_ | refine tU ?_ ?_ | refine tV ?_ ?_) <;> intro h) | refine dqT ?_ | refine dqF ?_ | refine z6 rfl ?_ | refine z5 rfl ?_ | refine z8 ?_ | refine z9 ?_)
    repeat' (first | refine dq1 ?_ | refine dqc ?_ | refine dqm ?_ | exact z4 rfl rfl | ((first | refine tR ?_ ?_ | refine tB ?_ ?_ | refine tC ?_ ?_ | refine tN ?_ ?_ | refine tF ?_ ?_ | refine tG ?_ ?_ | refine tP ?_ ?_ | refine tQ ?_ ?_ | refine tA ?_ ?_ | refine tO ?_ ?_ | refine tU ?_ ?_ | refine tV ?_ ?_) <;> intro h) | refine dqT ?_ | refine dqF ?_ | refine z6 rfl ?_ | refine z5 rfl ?_ | refine z8 ?_ | refine z9 ?_)
    refine z4o rfl (fun h => ?_) (fun h => ?_)
    ·rw [if_neg (fun hh => by have := (hh x (List.mem_cons_self ..)).2; omega)]
     repeat' (first | refine dq1 ?_ | refine dqc ?_ | refine dqm ?_ | exact z4 rfl rfl | ((first | refine tR ?_ ?_ | refine tB ?_ ?_ | refine tC ?_ ?_ | refine tN ?_ ?_ | refine tF ?_ ?_ | refine tG ?_ ?_ | refine tP ?_ ?_ | refine tQ ?_ ?_ | refine tA ?_ ?_ | refine tO ?_ ?_ | refine tU ?_ ?_ | refine tV ?_ ?_) <;> intro h) | refine dqT ?_ | refine dqF ?_ | refine z6 rfl ?_ | refine z5 rfl ?_ | refine z8 ?_ | refine z9 ?_)
    repeat' (first | refine dq1 ?_ | refine dqc ?_ | refine dqm ?_ | exact z4 rfl rfl | ((first | refine tR ?_ ?_ | refine tB ?_ ?_ | refine tC ?_ ?_ | refine tN ?_ ?_ | refine tF ?_ ?_ | refine tG ?_ ?_ | refine tP ?_ ?_ | refine tQ ?_ ?_ | refine tA ?_ ?_ | refine tO ?_ ?_ | refine tU ?_ ?_ | refine tV ?_ ?_) <;> intro h) | refine dqT ?_ | refine dqF ?_ | refine z6 rfl ?_ | refine z5 rfl ?_ | refine z8 ?_ | refine z9 ?_)
    refine ze rfl rfl ((hag () ?_).trans ?_)
    ·intro y hy
     rw [List.take_add_one, hx] at hy
     rcases List.mem_append.1 hy with hy | hy
     ·exact hp y hy
     ·simp only [Option.toList_some, List.mem_singleton] at hy; subst hy; exact ⟨by omega, by omega⟩
    ·have : (∀ y ∈ x :: r, z31 y) ↔ ∀ y ∈ r, z31 y := by
      simp only [List.mem_cons, forall_eq_or_imp]
      exact ⟨fun h => h.2, fun h => ⟨⟨by omega, by omega⟩, h⟩⟩
     simp only [this]
   ·rintro _ hp again
    rw [List.take_length] at hp
    rw [if_pos (by simp)]
    repeat' (first | refine dq1 ?_ | refine dqc ?_ | refine dqm ?_ | exact z4 rfl rfl | ((first | refine tR ?_ ?_ | refine tB ?_ ?_ | refine tC ?_ ?_ | refine tN ?_ ?_ | refine tF ?_ ?_ | refine tG ?_ ?_ | refine tP ?_ ?_ | refine tQ ?_ ?_ | refine tA ?_ ?_ | refine tO ?_ ?_ | refine tU ?_ ?_ | refine tV ?_ ?_) <;> intro h) | refine dqT ?_ | refine dqF ?_ | refine z6 rfl ?_ | refine z5 rfl ?_ | refine z8 ?_ | refine z9 ?_)
    (refine z09 (fun (s : List Int) k => [.l 1 (s.map z15), .l 1 (([] : List Int).map z15), I 0, I k]) (fun (s : List Int) _ (r : List Op) => (match z9g ht s r with | none => (([] : List Int), (8 : Int)) | some s' => (s', 0))) (fun s _ => z30 s) s0 l ?_ ?_ ?_ ?_ ?_; rfl; exact ⟨by omega, hp⟩; omega)
    ·rintro s k o r hx hd hk hs again' hag
     have hF : zdq ht s o = none → (match z9g ht s (o :: r) with | none => (([] : List Int), (8 : Int)) | some s' => (s', 0)) = ([], 8) := fun e => by rw [z9g, e]
     have hO : ∀ s', zdq ht s o = some s' → again' [.l 1 (s'.map z15), .l 1 (([] : List Int).map z15), I 0, I ((k : Int) + 1)] = ret (match z9g ht s (o :: r) with | none => (([] : List Int), (8 : Int)) | some s' => (s', 0)) := fun s' e => by rw [z9g, e]; exact hag s' (zrc hs e)
     generalize (match z9g ht s (o :: r) with | none => (([] : List Int), (8 : Int)) | some s' => (s', 0)) = R at hF hO ⊢
     have hsl := hs.1
     have hfit := hs
     have hll : l.length ≤ 16 := z7z hc0
     clear hag hd hp hs
     have hk13 : o.kind = 1 ∨ o.kind = 2 ∨ o.kind = 3 ∨ o.kind = 4 ∨ o.kind = 5 ∨ o.kind = 6 ∨ o.kind = 7 ∨ o.kind = 8 ∨ o.kind = 9 ∨ o.kind = 10 ∨ o.kind = 11 ∨ o.kind = 12 ∨ o.kind = 13 ∨ (o.kind ≠ 1 ∧ o.kind ≠ 2 ∧ o.kind ≠ 3 ∧ o.kind ≠ 4 ∧ o.kind ≠ 5 ∧ o.kind ≠ 6 ∧ o.kind ≠ 7 ∧ o.kind ≠ 8 ∧ o.kind ≠ 9 ∧ o.kind ≠ 10 ∧ o.kind ≠ 11 ∧ o.kind ≠ 12 ∧ o.kind ≠ 13) := by omega
     have hcase : (s.length = 0 ∧ z50 s = none) ∨ (∃ a t, z31 a ∧ z50 s = some (a, t) ∧ (s.length : Int) = t.length + 1 ∧ s[((s.length : Int) - 1).toNat]? = some a ∧ s.take ((s.length : Int) - 1).toNat = t ∧ ((t.length = 0 ∧ z50 t = none) ∨ ∃ b u, z31 b ∧ z50 t = some (b, u) ∧ (t.length : Int) = u.length + 1 ∧ t[((t.length : Int) - 1).toNat]? = some b ∧ t.take ((t.length : Int) - 1).toNat = u)) := by
      by_cases h0 : s.length = 0
      ·exact .inl ⟨h0, znf h0⟩
      ·obtain ⟨a, t, p1, p2, p3, p4, p5⟩ := zng h0
       have f1 := z4t hfit p1
       refine .inr ⟨a, t, f1.1, p1, p3, p4, p5, ?_⟩
       by_cases h1 : t.length = 0
       ·exact .inl ⟨h1, znf h1⟩
       ·obtain ⟨b, u, q1, q2, q3, q4, q5⟩ := zng h1
        exact .inr ⟨b, u, (z4t f1.2 q1).1, q1, q3, q4, q5⟩
     rcases hk13 with hk | hk | hk | hk | hk | hk | hk | hk | hk | hk | hk | hk | hk | hk
     all_goals
      try simp only [zdq, hk, Int.reduceEq, if_true, if_false] at hF hO
      rcases hcase with ⟨c1, c2⟩ | ⟨a, t, fa, p1, p3, p4, p5, ⟨c1, c2⟩ | ⟨b, u, fb, q1, q3, q4, q5⟩⟩
      ·try simp only [c2, zdp, zku, Option.bind_none] at hF hO
       repeat' (first | refine dq1 ?_ | refine dqc ?_ | refine dqm ?_ | refine dqK rfl (z9h _ (by assumption)) ?_ | refine dqK rfl (zdr _ _ ⟨by assumption, by assumption⟩) ?_ | refine dqK rfl (zds _ _ ⟨by assumption, by assumption⟩) ?_ | refine dqK rfl (zbw _ _) ?_ | refine dqK rfl (zbx _ _) ?_ | refine dqK rfl (zdt _ _) ?_ | refine dqK rfl (zdu _) ?_ | refine dqT ?_ | refine dqF ?_ | refine z6 rfl ?_ | refine z5 rfl ?_ | refine z8 ?_ | refine z9 ?_ | exact z4 rfl (by rw [hF (by (repeat' (first | rfl | rw [z60 (by omega)] | rw [z61 (by omega) (by omega) (by omega)] | rw [if_pos (by omega)] | rw [if_neg (by omega)] | simp only [Option.bind_some, Option.bind_none])))]; rfl) | exact z4 rfl (by rw [hF]; rfl) | exact z4 rfl (by rw [hF trivial]; rfl) | exact ze rfl rfl (hO _ (by (repeat' (first | rfl | rw [z60 (by omega)] | rw [z61 (by omega) (by omega) (by omega)] | rw [if_pos (by omega)] | rw [if_neg (by omega)] | simp only [Option.bind_some, Option.bind_none])))) | refine z4o rfl (fun h => ?_) (fun h => ?_))
      ·try simp only [p1, c2, zdp, zku, Option.bind_none, Option.bind_some] at hF hO
       obtain ⟨fa1, fa2⟩ := id fa
       repeat' (first | refine dq1 ?_ | refine dqc ?_ | refine dqm ?_ | refine dqK rfl (z9h _ (by assumption)) ?_ | refine dqK rfl (zdr _ _ ⟨by assumption, by assumption⟩) ?_ | refine dqK rfl (zds _ _ ⟨by assumption, by assumption⟩) ?_ | refine dqK rfl (zbw _ _) ?_ | refine dqK rfl (zbx _ _) ?_ | refine dqK rfl (zdt _ _) ?_ | refine dqK rfl (zdu _) ?_ | refine dqT ?_ | refine dqF ?_ | refine z6 rfl ?_ | refine z5 rfl ?_ | refine z8 ?_ | refine z9 ?_ | exact z4 rfl (by rw [hF (by (repeat' (first | rfl | rw [z60 (by omega)] | rw [z61 (by omega) (by omega) (by omega)] | rw [if_pos (by omega)] | rw [if_neg (by omega)] | simp only [Option.bind_some, Option.bind_none])))]; rfl) | exact z4 rfl (by rw [hF]; rfl) | exact z4 rfl (by rw [hF trivial]; rfl) | exact ze rfl rfl (hO _ (by (repeat' (first | rfl | rw [z60 (by omega)] | rw [z61 (by omega) (by omega) (by omega)] | rw [if_pos (by omega)] | rw [if_neg (by omega)] | simp only [Option.bind_some, Option.bind_none])))) | refine z4o rfl (fun h => ?_) (fun h => ?_))
      ·try simp only [p1, q1, zdp, zku, Option.bind_none, Option.bind_some] at hF hO
       obtain ⟨fa1, fa2⟩ := id fa
       obtain ⟨fb1, fb2⟩ := id fb
       repeat' (first | refine dq1 ?_ | refine dqc ?_ | refine dqm ?_ | refine dqK rfl (z9h _ (by assumption)) ?_ | refine dqK rfl (zdr _ _ ⟨by assumption, by assumption⟩) ?_ | refine dqK rfl (zds _ _ ⟨by assumption, by assumption⟩) ?_ | refine dqK rfl (zbw _ _) ?_ | refine dqK rfl (zbx _ _) ?_ | refine dqK rfl (zdt _ _) ?_ | refine dqK rfl (zdu _) ?_ | refine dqT ?_ | refine dqF ?_ | refine z6 rfl ?_ | refine z5 rfl ?_ | refine z8 ?_ | refine z9 ?_ | exact z4 rfl (by rw [hF (by (repeat' (first | rfl | rw [z60 (by omega)] | rw [z61 (by omega) (by omega) (by omega)] | rw [if_pos (by omega)] | rw [if_neg (by omega)] | simp only [Option.bind_some, Option.bind_none])))]; rfl) | exact z4 rfl (by rw [hF]; rfl) | exact z4 rfl (by rw [hF trivial]; rfl) | exact ze rfl rfl (hO _ (by (repeat' (first | rfl | rw [z60 (by omega)] | rw [z61 (by omega) (by omega) (by omega)] | rw [if_pos (by omega)] | rw [if_neg (by omega)] | simp only [Option.bind_some, Option.bind_none])))) | refine z4o rfl (fun h => ?_) (fun h => ?_))
    ·rintro s hs again'
     repeat' (first | refine dq1 ?_ | refine dqc ?_ | refine dqm ?_ | exact z4 rfl rfl | ((first | refine tR ?_ ?_ | refine tB ?_ ?_ | refine tC ?_ ?_ | refine tN ?_ ?_ | refine tF ?_ ?_ | refine tG ?_ ?_ | refine tP ?_ ?_ | refine tQ ?_ ?_ | refine tA ?_ ?_ | refine tO ?_ ?_ | refine tU ?_ ?_ | refine tV ?_ ?_) <;> intro h) | refine dqT ?_ | refine dqF ?_ | refine z6 rfl ?_ | refine z5 rfl ?_ | refine z8 ?_ | refine z9 ?_)
  ·intro i d hi hd
   match i, hi, hd with
   | 0, hi, _ => simp [zk] at hi
   | 1, _, hd => simp only [Enc.e, z15, List.cons_append, List.nil_append, List.getElem?_cons_zero, List.getElem?_cons_succ, Option.some.injEq] at hd; subst hd; rfl
   | i + 2, hi, hd => simp [zk] at hi
end
section
open Go.RowKit
set_option maxRecDepth 100000
set_option maxHeartbeats 4000000
attribute [local irreducible] z0o spD z1j z3w
noncomputable def z82 : zd := spD (fun _ : List Op × List Op × Int => True) fun x => z3g x.1 x.2.1 x.2.2
theorem zj5 (l k : List Op) (h : Int) : z82 [.l 2 (l.map eOp), .l 2 (k.map eOp), I h] = some [.b (z3g l k h).1, I (z3g l k h).2] := zm (f := fun x : List Op × List Op × Int => z3g x.1 x.2.1 x.2.2) (l, k, h) trivial
theorem z009 {h : Int} : ∀ {l : List Op} {s s' : List Int}, z30 s → z9g h s l = some s' → z30 s'
 | [], s, s', hs, he => by cases he; exact hs
 | o :: l, s, s', hs, he => by
  rw [z9g] at he
  cases hm : zdq h s o with
  | none => rw [hm] at he; cases he
  | some t => rw [hm] at he; exact z009 (zrc hs hm) he
theorem znh (l : List Op) (s : List Int) (h : Int) : (z3w l s h).1.length ≤ 16 := by
 unfold z3w
 split
 ·simp
 split
 ·simp
 rename_i h2
 split
 ·rename_i h3
  have hs : z30 s := ⟨by omega, h3⟩
  cases hm : z9g h s l with
  | none => simp
  | some t => exact (z009 hs hm).1
 ·simp
theorem z09u {l : List Int} (h : (l.length : Int) = 1) : l[(0 : Int).toNat]? = some (l.headD 0) := by
 match l, h with
 | [x], _ => rfl
def zoi : T :=
 .lets [.bin .neq (.v 8) (.c (.i .i64 0))] [] (.ite (.v 9) (.ret [.c (.b false), .v 8]) (.lets [.bin .add (.v 5) (.c (.i .i64 1))] [] (.again 0 [.v 3, .v 4, .v 10])))
def zoj : T :=
 .lets [] [.inr 1 (.v 10) (.c (.i .i64 0))] (.lets [.idx (.v 10) (.c (.i .i64 0)) 0] [] (.lets [.bin .neq (.v 16) (.c (.i .i64 0))] [] (.ret [.v 17, .c (.i .i64 0)])))
def zok : T :=
 .ite (.v 13) (.lets [.len (.v 10)] [] (.lets [.bin .eql (.v 14) (.c (.i .i64 1))] [] (.ite (.v 15) zoj (.ret [.c (.b false), .c (.i .i64 0)])))) (.ret [.c (.b false), .c
 (.i .i64 0)])
def zol : T :=
 .lets [.call 28 [.v 0, .v 7, .v 2] 0, .call 28 [.v 0, .v 7, .v 2] 1] [] (.lets [.bin .eql (.v 11) (.c (.i .i64 3))] [] (.ite (.v 12) (.ret [.c (.b false), .v 11]) (.lets [.bin .eql
 (.v 11) (.c (.i .i64 0))] [] zok)))
def zom : T :=
 .lets [] [.inr 1 (.v 7) (.c (.i .i64 0))] (.lets [.idx (.v 7) (.c (.i .i64 0)) 0] [] (.lets [.bin .neq (.v 14) (.c (.i .i64 0))] [] (.ret [.v 15, .c (.i .i64 0)])))
def zon : T :=
 .ite (.v 11) (.lets [.len (.v 7)] [] (.lets [.bin .eql (.v 12) (.c (.i .i64 1))] [] (.ite (.v 13) zom (.ret [.c (.b false), .c (.i .i64 0)])))) (.ret [.c (.b false), .c
 (.i .i64 0)])
def zoo : T :=
 .ite (.v 9) zol (.lets [.bin .eql (.v 8) (.c (.i .i64 3))] [] (.ite (.v 10) (.ret [.c (.b false), .v 8]) (.lets [.bin .eql (.v 8) (.c (.i .i64 0))] [] zon)))
def zop : T :=
 .ite (.v 6) (.lets [.sel [.v 0, .v 1] (.v 5)] [] (.lets [.call 7 [.v 7] 0] [] zoi)) (.lets [.call 28 [.v 1, .c (.nil 1), .v 2] 0, .call 28 [.v 1, .c (.nil 1), .v 2] 1] []
 (.lets [.bin .eql (.v 8) (.c (.i .i64 0))] [] zoo))
def zby : T :=
 .loop [.c (.b false), .c (.i .i64 0), .c (.i .i64 0)] (.lets [.bin .lss (.v 5) (.c (.i .i64 2))] [] zop)
theorem zxu : Meets Tryz.prog z82 139 ⟨[.one, .one, .one], [(false, [.scal]), (false, [.scal])], true⟩ := by
 refine zo (sp := (z0i [(7, z0u), (28, z81)])) (sigs := z0q) (cut := []) (hints := [⟨2, [.t 6, .t 7, .t 16]⟩]) (fn := Tryz.f139) (t := zby) (by kernel_rfl) (by kernel_rfl) (by kernel_rfl) ?_ ?_
 ·exact (z07 (L := [(7, z0u), (28, z81)]) ⟨za rfl z6f, za rfl z04d, trivial⟩)
 ·rintro ds rs - h
  obtain ⟨⟨l, k, ht⟩, -, rfl, rfl⟩ := zq h
  clear h
  refine ⟨⟨3, ?_⟩, z8i rfl rfl⟩
  show den _ _ zby [.l 2 (l.map eOp), .l 2 (k.map eOp), I ht] [] = ret (z3g l k ht)
  unfold zby z3g
  refine zar rfl ?_
  rw [z34]
  repeat' (first | refine dq1 ?_ | refine dqc ?_ | refine dqm ?_ | refine dqK rfl (z3v _) ?_ | exact z4 rfl rfl | ((first | refine tR ?_ ?_ | refine tB ?_ ?_ | refine tC ?_ ?_ | refine tN ?_ ?_ | refine tF ?_ ?_ | refine tG ?_ ?_ | refine tP ?_ ?_ | refine tQ ?_ ?_ | refine tA ?_ ?_ | refine tO ?_ ?_ | refine tU ?_ ?_ | refine tV ?_ ?_) <;> intro h) | refine dqT ?_ | refine dqF ?_ | refine z6 rfl ?_ | refine z5 rfl ?_ | refine z8 ?_ | refine z9 ?_)
  refine ze rfl rfl ?_
  rw [z34]
  have hr1 := znh k [] ht
  have hr2 := znh l (z3w k [] ht).1 ht
  unfold zkv
  repeat' (first | refine dq1 ?_ | refine dqc ?_ | refine dqm ?_ | refine dqK rfl (zeg k [] ht (by simp)) ?_ | refine dqK rfl (zeg l _ ht (by omega)) ?_ | exact z4 rfl rfl | ((first | refine tR ?_ ?_ | refine tB ?_ ?_ | refine tC ?_ ?_ | refine tN ?_ ?_ | refine tF ?_ ?_ | refine tG ?_ ?_ | refine tP ?_ ?_ | refine tQ ?_ ?_ | refine tA ?_ ?_ | refine tO ?_ ?_ | refine tU ?_ ?_ | refine tV ?_ ?_) <;> intro h) | refine dqT ?_ | refine dqF ?_ | refine z6 rfl ?_ | refine z5 rfl ?_ | refine z8 ?_ | refine z9 ?_)
  all_goals
   have hx := z09u (by assumption)
   repeat' (first | refine dq1 ?_ | refine dqc ?_ | refine dqm ?_ | exact z4 rfl rfl | ((first | refine tR ?_ ?_ | refine tB ?_ ?_ | refine tC ?_ ?_ | refine tN ?_ ?_ | refine tF ?_ ?_ | refine tG ?_ ?_ | refine tP ?_ ?_ | refine tQ ?_ ?_ | refine tA ?_ ?_ | refine tO ?_ ?_ | refine tU ?_ ?_ | refine tV ?_ ?_) <;> intro h) | refine dqT ?_ | refine dqF ?_ | refine z6 rfl ?_ | refine z5 rfl ?_ | refine z8 ?_ | refine z9 ?_)
end
section
open Go.RowKit Go.Shelf
open Go.Lib (itoa atoiAll atoiSat)
set_option maxRecDepth 100000
structure GoErr where
 is : Bool
instance : Enc GoErr := ⟨fun x => [.e x.is], 1, fun _ => rfl, fun x y h => by cases x; cases y; simpa using h⟩
section
variable {P : Program} {W : World} {F : Nat → Prop}
theorem z2d {x : List UInt8} {v : Value} (h : Rep W F (.s x) v) : v = .string ⟨x.toArray⟩ ∧ x.length ≤ 9223372036854775807 := by
 cases h
 exact ⟨rfl, by assumption⟩
theorem z07e {l : List (List UInt8)} {v : Value} (h : Rep W F (.l 1 (l.map z24)) v) : ∃ A c b o, v = .slice A l.length c ∧ l.length ≤ c ∧ c ≤ 9223372036854775807 ∧ (0 < l.length → A = some ⟨b, o, none⟩ ∧ F b) ∧ ∀ (j : Nat) x, l[j]? = some x → W.cell? ⟨b, o + j, none⟩ = some (.string ⟨x.toArray⟩) := by
 cases h with
 | l _ _ A n c b o vs h0 h1 h2 h3 h4 h5 h6 =>
  subst h0
  refine ⟨A, c, b, o, by rw [List.length_map], by simpa using h1, h2, by simpa using h4, fun j x hx => ?_⟩
  have e1 := h5 j 0 (z24 x) (.s x) (by rw [List.getElem?_map, hx]; rfl) rfl
  have e2 := h6 j 0 (z24 x) (.s x) (by rw [List.getElem?_map, hx]; rfl) rfl
  rw [(z2d e2).1] at e1
  simpa using e1
theorem z2f {α β : Type} [Enc α] [Enc β] {p : α → Prop} {f : α → β} {s : Sig} {fnum : Nat} (hpk : z3d s.args = false) (hen : En P fnum)
  (h : ∀ x, p x → ∀ W F us, z9e F W → PKRs W F s.args (Enc.e x) us → Calls P fnum us.toArray W fun r W' => ∃ v, r = .returned v ∧ Below W.heap.size W W' ∧ ∃ us F', ResR W F W' s (Enc.e (f x)) v us F') : Meets P (spD p f) fnum s :=
 .mk hpk fun W F ds args rs hF ha hs => by
  obtain ⟨x, hx, rfl, rfl⟩ := zq hs
  exact .inl ⟨hen.run _ _, (h x hx W F args hF ha).mono fun r W' ⟨v, h1, h2, h3⟩ => ⟨v, h1, h2, h3⟩⟩
theorem zj6 {α : Type} [Enc α] {p : α → Prop} {f : α → List UInt8} {pk : List PK} {fnum : Nat} (hpk : z3d pk = false) (hen : En P fnum)
  (h : ∀ x, p x → ∀ W F us, z9e F W → PKRs W F pk (Enc.e x) us → (f x).length ≤ 9223372036854775807 ∧ Calls P fnum us.toArray W fun r W' => r = .returned (.string ⟨(f x).toArray⟩) ∧ Below W.heap.size W W') : Meets P (spD p f) fnum ⟨pk, [(false, [.scal])], true⟩ :=
 z2f hpk hen fun x hx W F us hF ha => (h x hx W F us hF ha).2.mono fun r W' ⟨h1, h2⟩ => ⟨_, h1, h2, zdd rfl (.s _ (h x hx W F us hF ha).1)⟩
theorem zj7 {α : Type} [Enc α] {p : α → Prop} {f : α → Bool} {pk : List PK} {fnum : Nat} (hpk : z3d pk = false) (hen : En P fnum)
  (h : ∀ x, p x → ∀ W F us, z9e F W → PKRs W F pk (Enc.e x) us → Calls P fnum us.toArray W fun r W' => r = .returned (.bool (f x)) ∧ Below W.heap.size W W') : Meets P (spD p f) fnum ⟨pk, [(false, [.scal])], true⟩ :=
 z2f hpk hen fun x hx W F us hF ha => (h x hx W F us hF ha).mono fun r W' ⟨h1, h2⟩ => ⟨_, h1, h2, zdd rfl (.b _)⟩
theorem zj8 {α : Type} [Enc α] {p : α → Prop} {f : α → Int} {pk : List PK} {fnum : Nat} (hpk : z3d pk = false) (hen : En P fnum)
  (h : ∀ x, p x → ∀ W F us, z9e F W → PKRs W F pk (Enc.e x) us → I64 (f x) ∧ Calls P fnum us.toArray W fun r W' => r = .returned (.int .i64 (f x)) ∧ Below W.heap.size W W') : Meets P (spD p f) fnum ⟨pk, [(false, [.scal])], true⟩ :=
 z2f hpk hen fun x hx W F us hF ha => (h x hx W F us hF ha).2.mono fun r W' ⟨h1, h2⟩ => ⟨_, h1, h2, zdd rfl (.i _ _ (wrap_i64 (h x hx W F us hF ha).1))⟩
theorem z7h {s : List PK} {l : Bool} {W' : World} {d1 d2 : Dt} {v1 v2 : Value} (h1 : d1.scal = true) (h2 : d2.scal = true) (r1 : Rep W' F d1 v1) (r2 : Rep W' F d2 v2) : ∃ us F', ResR W F W' ⟨s, [(false, [.scal]), (false, [.scal])], l⟩ [d1, d2] (.tuple #[v1, v2]) us F' := by
 refine ⟨[v1, v2], F, zdf ⟨[v1, v2], rfl, v1, [v2], [v1], [v2], rfl, rfl, ⟨rfl, rfl⟩, v2, [], [v2], [], rfl, rfl, ⟨rfl, rfl⟩, rfl, rfl⟩ ?_ ?_ rfl ⟨r1, r2, trivial⟩ fun b hb => .inl hb⟩
 ·intro c hc
  simp only [zk, List.flatMap_cons, List.flatMap_nil, List.append_nil, List.cons_append, List.nil_append, List.mem_cons, List.not_mem_nil, or_false] at hc
  rcases hc with rfl | rfl <;> exact .inl rfl
 ·intro j d hj hd
  match j, hd with
  | 0, hd => simp only [List.getElem?_cons_zero, Option.some.injEq] at hd; subst hd; exact h1
  | 1, hd => simp only [List.getElem?_cons_zero, List.getElem?_cons_succ, Option.some.injEq] at hd; subst hd; exact h2
  | j + 2, hd => simp at hd
theorem z04e {s : List PK} {l : Bool} {W' : World} {d1 d2 d3 : Dt} {v1 v2 v3 : Value} (h1 : d1.scal = true) (h2 : d2.scal = true) (h3 : d3.scal = true) (r1 : Rep W' F d1 v1) (r2 : Rep W' F d2 v2) (r3 : Rep W' F d3 v3) : ∃ us F', ResR W F W' ⟨s, [(false, [.scal]), (false, [.scal]), (false, [.scal])], l⟩ [d1, d2, d3] (.tuple #[v1, v2, v3]) us F' := by
 refine ⟨[v1, v2, v3], F, zdf ⟨[v1, v2, v3], rfl, v1, [v2, v3], [v1], [v2, v3], rfl, rfl, ⟨rfl, rfl⟩, v2, [v3], [v2], [v3], rfl, rfl, ⟨rfl, rfl⟩, v3, [], [v3], [], rfl, rfl, ⟨rfl, rfl⟩, rfl, rfl⟩ ?_ ?_ rfl ⟨r1, r2, r3, trivial⟩ fun b hb => .inl hb⟩
 ·intro c hc
  simp only [zk, List.flatMap_cons, List.flatMap_nil, List.append_nil, List.cons_append, List.nil_append, List.mem_cons, List.not_mem_nil, or_false] at hc
  rcases hc with rfl | rfl | rfl <;> exact .inl rfl
 ·intro j d hj hd
  match j, hd with
  | 0, hd => simp only [List.getElem?_cons_zero, Option.some.injEq] at hd; subst hd; exact h1
  | 1, hd => simp only [List.getElem?_cons_zero, List.getElem?_cons_succ, Option.some.injEq] at hd; subst hd; exact h2
  | 2, hd => simp only [List.getElem?_cons_zero, List.getElem?_cons_succ, Option.some.injEq] at hd; subst hd; exact h3
  | j + 3, hd => simp at hd
end
theorem z4k (n : Int) (h : I64 n) : (itoa n).length ≤ 20 := by
 obtain ⟨h0, h1⟩ := h
 by_cases hn : n < 0
 ·rw [zaa hn, List.length_cons]
  have := z3o 18 n.natAbs (by omega)
  omega
 ·rw [zab hn]
  have := z3o 18 n.toNat (by omega)
  omega
noncomputable def z3a : zd := spD (fun _ : Int => True) fun n => itoa n
theorem z9v (n : Int) : z3a [I n] = some [.s (itoa n)] := zm (f := fun n : Int => itoa n) n trivial
theorem zj9 : Meets Tryz.prog z3a 64 ⟨[.one], [(false, [.scal])], true⟩ :=
 zj6 rfl (z22 (fn := Tryz.f64) (by kernel_rfl) (by kernel_rfl) (by kernel_rfl)) fun n _ W F us hF h => by
  obtain ⟨v, us, rfl, h1, h⟩ := z0h h
  obtain rfl := z1m h
  obtain ⟨rfl, hn⟩ := zkt h1
  refine ⟨by have := z4k n hn; omega, (Any.strconv_Itoa Tryz.lays171 n hn.1 hn.2 W hF.2.1).mono ?_⟩
  rintro e w' ⟨rfl, k, os, rfl⟩
  exact ⟨rfl, Go.Lib.below_grow _ _ (Nat.le_refl _) k os⟩
noncomputable def z9w : zd := spD (fun x : List (List UInt8) × List UInt8 => x.1.length ≤ 1000000 ∧ (Go.Lib.join x.1 x.2).length ≤ 1000000000) fun x => Go.Lib.join x.1 x.2
theorem zoq (l : List (List UInt8)) (s : List UInt8) (h : l.length ≤ 1000000 ∧ (Go.Lib.join l s).length ≤ 1000000000) : z9w [.l 1 (l.map z24), .s s] = some [.s (Go.Lib.join l s)] :=
 zm (p := fun x : List (List UInt8) × List UInt8 => x.1.length ≤ 1000000 ∧ (Go.Lib.join x.1 x.2).length ≤ 1000000000) (f := fun x : List (List UInt8) × List UInt8 => Go.Lib.join x.1 x.2) (l, s) h
theorem z04f : Meets Tryz.prog z9w 116 ⟨[.one, .one], [(false, [.scal])], true⟩ :=
 zj6 rfl (z22 (fn := Tryz.f116) (by kernel_rfl) (by kernel_rfl) (by kernel_rfl)) fun ⟨l, s⟩ ⟨hl, hj⟩ W F us hF h => by
  obtain ⟨v, us, rfl, h1, h⟩ := z0h h
  obtain ⟨v2, us, rfl, h2, h⟩ := z0h h
  obtain rfl := z1m h
  obtain ⟨A, c, b, o, rfl, hc, hcm, hp, hcell⟩ := z07e h1
  obtain ⟨rfl, -⟩ := z2d h2
  simp only at hl hj hc hp hcell
  refine ⟨by simp only; omega, ?_⟩
  by_cases h0 : l.length = 0
  ·obtain rfl : l = [] := List.eq_nil_of_length_eq_zero h0
   exact (Any.strings_Join_none Tryz.lays156 Tryz.Builder_Extra_156 A c ⟨s.toArray⟩ W).mono fun e w' ⟨h1, h2⟩ => ⟨h1, h2 ▸ Below.refl _ _⟩
  ·obtain ⟨rfl, hb⟩ := hp (by omega)
   have hd : ∀ l : List (List UInt8), (l.map fun x => (⟨x.toArray⟩ : ByteArray)).map (·.data.toList) = l := fun l => by rw [List.map_map]; exact (List.map_congr_left fun x _ => rfl).trans (List.map_id l)
   have key := Any.strings_Join Tryz.lays156 Tryz.Builder_Extra_156 b o c (l.map fun x => (⟨x.toArray⟩ : ByteArray)) ⟨s.toArray⟩ W (fun j x hx => by
    rw [List.getElem?_map] at hx
    obtain ⟨y, hy, rfl⟩ := Option.map_eq_some_iff.1 hx
    exact hcell j y hy) (hF.1 b hb) (by rw [List.length_map]; omega) (by rw [List.length_map]; omega) (by rw [hd]; simp only; omega)
   rw [hd, List.length_map] at key
   exact key
end
section
open Go.RowKit
end
section
open Go.RowKit
open Go.Lib (itoa)
set_option maxRecDepth 100000
set_option maxHeartbeats 4000000
def z2u : zd := fun ds => match ds with
 | [] => some (opNames.map Dt.s)
 | _ :: _ => none
theorem zbj : z2u [] = some [.s [], .s [], .s [100, 117, 112], .s [115, 119, 97, 112], .s [100, 114, 111, 112], .s [97, 100, 100], .s [115, 117, 98], .s [115, 97, 109, 101], .s [108, 101, 115, 115], .s [110, 111, 116], .s [97, 110, 100], .s [118, 101, 114, 105, 102, 121], .s [104, 101, 105, 103, 104, 116], .s [109, 105, 120]] := rfl
def zxv : T :=
 .ret [.c (.s []), .c (.s []), .c (.s [100, 117, 112]), .c (.s [115, 119, 97, 112]), .c (.s [100, 114, 111, 112]), .c (.s [97, 100, 100]), .c (.s [115, 117, 98]), .c (.s [115, 97,
 109, 101]), .c (.s [108, 101, 115, 115]), .c (.s [110, 111, 116]), .c (.s [97, 110, 100]), .c (.s [118, 101, 114, 105, 102, 121]), .c (.s [104, 101, 105, 103, 104, 116]), .c (.s
 [109, 105, 120])]
def zor : T :=
 .lets [.call 37 [.v 8] 0] [] (.lets [.mk 1 [[.v 25]]] [] (.lets [.app 1 (.v 4) (.v 26)] [] (.lets [.bin .add (.v 5) (.c (.i .i64 1))] [] (.again 0 [.v 27, .v 28]))))
def zos : T :=
 .ite (.v 24) zor (.lets [.mk 1 [[.v 23]]] [] (.lets [.app 1 (.v 4) (.v 25)] [] (.lets [.bin .add (.v 5) (.c (.i .i64 1))] [] (.again 0 [.v 26, .v 27]))))
def zot : T :=
 .lets [.sel [.v 9, .v 10, .v 11, .v 12, .v 13, .v 14, .v 15, .v 16, .v 17, .v 18, .v 19, .v 20, .v 21, .v 22] (.v 7)] [] (.lets [.bin .eql (.v 7) (.c (.i .i64 1))] [] zos)
def zou : T :=
 .lets [.call 39 [] 0, .call 39 [] 1, .call 39 [] 2, .call 39 [] 3, .call 39 [] 4, .call 39 [] 5, .call 39 [] 6, .call 39 [] 7, .call 39 [] 8, .call 39 [] 9, .call 39 [] 10, .call 39
 [] 11, .call 39 [] 12, .call 39 [] 13] [] zot
def zov : T :=
 .ite (.v 6) (.lets [] [.inr 2 (.v 0) (.v 5)] (.lets [.idx (.v 0) (.v 5) 0, .idx (.v 0) (.v 5) 1] [] zou)) (.lets [.call 38 [.v 4, .c (.s [32])] 0] [] (.ret [.v 7, .c (.i
 .i64 0)]))
def zow : T :=
 .lets [.bin .neq (.v 1) (.c (.i .i64 0))] [] (.ite (.v 2) (.ret [.c (.s []), .v 1]) (.lets [.len (.v 0)] [] (.loop [.c (.nil 1), .c (.i .i64 0)] (.lets [.bin .lss (.v 5) (.v 3)] []
 zov))))
def zbz : T :=
 .lets [.call 7 [.v 0] 0] [] zow
theorem zh2 : Meets Tryz.prog z2u 115 ⟨[], [(true, [.scal, .scal, .scal, .scal, .scal, .scal, .scal, .scal, .scal, .scal, .scal, .scal, .scal, .scal])], true⟩ := by
 refine zo (sp := (z0i [])) (sigs := z0q) (cut := []) (hints := []) (fn := Tryz.f115) (t := zxv) (by kernel_rfl) (by kernel_rfl) (by kernel_rfl) ?_ ?_
 ·exact (z07 (L := []) trivial)
 ·rintro ds rs - h
  cases ds with
  | cons d ds => cases h
  | nil =>
   cases h
   refine ⟨⟨1, rfl⟩, fun i d hi hd => ?_⟩
   rw [List.getElem?_map] at hd
   obtain ⟨x, _, rfl⟩ := Option.map_eq_some_iff.1 hd
   rfl
noncomputable def zfo : zd := spD (fun _ : List Op => True) fun l => z2c l
theorem zja (l : List Op) : zfo [.l 2 (l.map eOp)] = some [.s (z2c l).1, I (z2c l).2] := zm (f := fun l : List Op => z2c l) l trivial
theorem z0cx {k : Int} (h0 : 1 ≤ k) (h1 : k ≤ 13) : (opNames.map Dt.s)[k.toNat]? = some (.s ((opNames[k.toNat]?).getD [])) := by
 rcases zi5 h0 h1 with rfl | rfl | rfl | rfl | rfl | rfl | rfl | rfl | rfl | rfl | rfl | rfl | rfl <;> rfl
attribute [local irreducible] z0o spD z1j itoa zf z3g z05 z2u
theorem zxw : Meets Tryz.prog zfo 65 ⟨[.one], [(false, [.scal]), (false, [.scal])], true⟩ := by
 refine zo (sp := (z0i [(7, z0u), (37, z3a), (38, z9w), (39, z2u)])) (sigs := z0q) (cut := []) (hints := [⟨6, [.r 5 9 1, .t 16]⟩]) (fn := Tryz.f65) (t := zbz) (by kernel_rfl) (by kernel_rfl) (by kernel_rfl) ?_ ?_
 ·exact (z07 (L := [(7, z0u), (37, z3a), (38, z9w), (39, z2u)]) ⟨za rfl z6f, za rfl zj9, za rfl z04f, za rfl zh2, trivial⟩)
 ·rintro ds rs - h
  obtain ⟨l, -, rfl, rfl⟩ := zq h
  clear h
  refine ⟨⟨l.length + 1, ?_⟩, z8i rfl rfl⟩
  show den _ _ zbz [.l 2 (l.map eOp)] [] = ret (z2c l)
  unfold zbz z2c
  repeat' (first | refine dq1 ?_ | refine dqc ?_ | refine dqm ?_ | refine dqK rfl (z3v _) ?_ | exact z4 rfl rfl | ((first | refine tR ?_ ?_ | refine tB ?_ ?_ | refine tC ?_ ?_ | refine tN ?_ ?_ | refine tF ?_ ?_ | refine tG ?_ ?_ | refine tP ?_ ?_ | refine tQ ?_ ?_ | refine tA ?_ ?_ | refine tO ?_ ?_ | refine tU ?_ ?_ | refine tV ?_ ?_) <;> intro h) | refine dqT ?_ | refine dqF ?_ | refine z6 rfl ?_ | refine z5 rfl ?_ | refine z8 ?_ | refine z9 ?_)
  have hc0 : zf l = 0 := Decidable.not_not.1 (by assumption)
  obtain ⟨hl16, hall⟩ := zad hc0
  (refine z09 (fun (s : List (List UInt8)) k => [.l 1 (s.map z24), I k]) (fun (s : List (List UInt8)) _ (r : List Op) => (z05 32 (s ++ r.map z1n), (0 : Int))) (fun s k => s = (l.take k).map z1n) [] l ?_ ?_ ?_ ?_ ?_; rfl; exact rfl; omega)
  ·rintro s k o r hx hd hk hs again hag
   have hsl : s.length ≤ 16 := by rw [hs, List.length_map, List.length_take]; omega
   have ho := zhg (hall o (List.mem_of_getElem? hx))
   obtain ⟨ho1, ho2, -⟩ := ho
   have hn := z0cx ho1 ho2
   have hnext : s ++ [z1n o] = (l.take (k + 1)).map z1n := by rw [hs, List.take_add_one, hx, List.map_append]; rfl
   have hag := hag (s ++ [z1n o]) hnext
   rw [← List.append_cons] at hag
   rw [List.map_cons]
   repeat' (first | refine dq1 ?_ | refine dqc ?_ | refine dqm ?_ | refine dqK rfl (zbj) ?_ | exact z4 rfl rfl | ((first | refine tR ?_ ?_ | refine tB ?_ ?_ | refine tC ?_ ?_ | refine tN ?_ ?_ | refine tF ?_ ?_ | refine tG ?_ ?_ | refine tP ?_ ?_ | refine tQ ?_ ?_ | refine tA ?_ ?_ | refine tO ?_ ?_ | refine tU ?_ ?_ | refine tV ?_ ?_) <;> intro h) | refine dqT ?_ | refine dqF ?_ | refine z6 rfl ?_ | refine z5 rfl ?_ | refine z8 ?_ | refine z9 ?_)
   refine z7 (z12 rfl rfl (by omega) hn) ?_
   repeat' (first | refine dq1 ?_ | refine dqc ?_ | refine dqm ?_ | exact z4 rfl rfl | ((first | refine tR ?_ ?_ | refine tB ?_ ?_ | refine tC ?_ ?_ | refine tN ?_ ?_ | refine tF ?_ ?_ | refine tG ?_ ?_ | refine tP ?_ ?_ | refine tQ ?_ ?_ | refine tA ?_ ?_ | refine tO ?_ ?_ | refine tU ?_ ?_ | refine tV ?_ ?_) <;> intro h) | refine dqT ?_ | refine dqF ?_ | refine z6 rfl ?_ | refine z5 rfl ?_ | refine z8 ?_ | refine z9 ?_)
   refine z4o rfl (fun h => ?_) (fun h => ?_)
   ·have ht : z1n o = itoa o.n := if_pos h
    rw [ht] at hag ⊢
    repeat' (first | refine dq1 ?_ | refine dqc ?_ | refine dqm ?_ | refine dqK rfl (z9v _) ?_ | refine z7 (z29 rfl rfl (by simp)) ?_ | exact z4 rfl rfl | ((first | refine tR ?_ ?_ | refine tB ?_ ?_ | refine tC ?_ ?_ | refine tN ?_ ?_ | refine tF ?_ ?_ | refine tG ?_ ?_ | refine tP ?_ ?_ | refine tQ ?_ ?_ | refine tA ?_ ?_ | refine tO ?_ ?_ | refine tU ?_ ?_ | refine tV ?_ ?_) <;> intro h) | refine dqT ?_ | refine dqF ?_ | refine z6 rfl ?_ | refine z5 rfl ?_ | refine z8 ?_ | refine z9 ?_)
    exact ze rfl rfl hag
   ·have ht : z1n o = (opNames[o.kind.toNat]?).getD [] := if_neg h
    rw [ht] at hag ⊢
    repeat' (first | refine dq1 ?_ | refine dqc ?_ | refine dqm ?_ | refine z7 (z29 rfl rfl (by simp)) ?_ | exact z4 rfl rfl | ((first | refine tR ?_ ?_ | refine tB ?_ ?_ | refine tC ?_ ?_ | refine tN ?_ ?_ | refine tF ?_ ?_ | refine tG ?_ ?_ | refine tP ?_ ?_ | refine tQ ?_ ?_ | refine tA ?_ ?_ | refine tO ?_ ?_ | refine tU ?_ ?_ | refine tV ?_ ?_) <;> intro h) | refine dqT ?_ | refine dqF ?_ | refine z6 rfl ?_ | refine z5 rfl ?_ | refine z8 ?_ | refine z9 ?_)
    exact ze rfl rfl hag
  ·rintro s hs again
   rw [List.take_length] at hs
   subst hs
   have hln := zbq hc0
   have hj := zi1 32 (l.map z1n)
   have ht : z05 32 (l.map z1n) = z3m l := rfl
   simp only [List.map_nil, List.append_nil]
   rw [← hj]
   repeat' (first | refine dq1 ?_ | refine dqc ?_ | refine dqm ?_ | refine dqK rfl (zoq (l.map z1n) [32] ⟨by rw [List.length_map]; omega, by rw [hj, ht]; omega⟩) ?_ | exact z4 rfl rfl | ((first | refine tR ?_ ?_ | refine tB ?_ ?_ | refine tC ?_ ?_ | refine tN ?_ ?_ | refine tF ?_ ?_ | refine tG ?_ ?_ | refine tP ?_ ?_ | refine tQ ?_ ?_ | refine tA ?_ ?_ | refine tO ?_ ?_ | refine tU ?_ ?_ | refine tV ?_ ?_) <;> intro h) | refine dqT ?_ | refine dqF ?_ | refine z6 rfl ?_ | refine z5 rfl ?_ | refine z8 ?_ | refine z9 ?_)
end
section
open Go.RowKit Go.Shelf
open Go.Lib (itoa)
set_option maxRecDepth 100000
def FactsW (w : World) (F : Nat → Prop) (Δ : List Res) : Prop := ∀ r ∈ Δ, r.block = none ∧ r.holds w.heap.size F w
theorem FactsW.nil {w : World} {F : Nat → Prop} : FactsW w F [] := fun _ h => by cases h
theorem FactsW.cons {w : World} {F : Nat → Prop} {Δ : List Res} {r : Res} (h1 : r.block = none) (h2 : r.holds w.heap.size F w) (h : FactsW w F Δ) : FactsW w F (r :: Δ) := fun q hq => by
 rcases List.mem_cons.1 hq with rfl | hq
 ·exact ⟨h1, h2⟩
 ·exact h q hq
theorem z04k {α : Type} {S : Sh α} {xs : List α} {A : Option Addr} {n c : Nat} : (rds xs A n c S).block = none := by unfold rds zhs; rfl
theorem z04l {α : Type} {S : Sh α} {xs : List α} {A : Option Addr} {n c h0 : Nat} {w : World} {F : Nat → Prop} (h : Rds S w F xs A n c) : (rds xs A n c S).holds h0 F w := by unfold rds zhs; exact h
theorem FactsW.rds {w : World} {F : Nat → Prop} {Δ : List Res} {α : Type} {S : Sh α} {xs : List α} {A : Option Addr} {n c : Nat} (h : Rds S w F xs A n c) (hΔ : FactsW w F Δ) : FactsW w F (rds xs A n c S :: Δ) := .cons z04k (z04l h) hΔ
def sb (gb : Nat) (l : List UInt8) : Res := {
 block := some gb
 holds h0 F W := h0 ≤ gb ∧ ∃ v p, W.heap[gb]? = some (.cells #[p, v] 124 (0, 0)) ∧ W.ownsRow gb 5 1 v l.length (Lib.byteCells l) ∧ v.ownBlock ≠ some gb ∧ (∀ g, v.ownBlock = some g → F g) ∧ (p = .pointer none ∨ p = .pointer (some ⟨gb, 0, none⟩))
 keep := fun ha hF hb ⟨h0, v, p, h1, h2, h3, h4, h5⟩ => ⟨h0, v, p, (hb _ rfl).trans h1, zfe h2 (fun g hg => ha g (h4 g hg)), h3, fun g hg => hF g (h4 g hg), h5⟩
 lt := fun ⟨h0, v, p, h1, _⟩ e => by injection e with e; subst e; exact ⟨h0, (Array.getElem?_eq_some_iff.1 h1).1⟩ }
section
variable {w0 W : World} {F0 : Nat → Prop} {Γ Δ : List Res} {gb : Nat} {l : List UInt8}
theorem FactsW.sep {r : Res} (hΔ : FactsW w0 F0 Δ) (hb : Below w0.heap.size w0 W) (hF : ∀ b, F0 b → b < w0.heap.size) (hr : r.holds w0.heap.size (Free w0.heap.size F0 (r :: Δ) W) W) (hg : ∀ g, r.block = some g → w0.heap.size ≤ g) : Sep w0 F0 (r :: Δ) W := by
 refine ⟨hb, hF, ?_, ?_⟩
 ·intro q hq
  rcases List.mem_cons.1 hq with rfl | hq
  ·exact hr
  ·refine q.keep (fun b hb' => hb.block b (hF b hb')) (fun b hb' => ⟨.inl hb', fun p hp e => ?_⟩) (fun g hg' => by rw [(hΔ q hq).1] at hg'; cases hg') (hΔ q hq).2
   rcases List.mem_cons.1 hp with rfl | hp
   ·have := hg b e; have := hF b hb'; omega
   ·rw [(hΔ p hp).1] at e; cases e
 ·refine List.pairwise_cons.2 ⟨fun q hq g _ h2 => (by rw [(hΔ q hq).1] at h2; cases h2), ?_⟩
  exact List.pairwise_of_forall_mem_list fun q hq p hp g h1 _ => by rw [(hΔ q hq).1] at h1; cases h1
theorem Sep.sbStart {w : World} {F : Nat → Prop} (hF : ∀ b, F b → b < w.heap.size) (hΔ : FactsW w F Δ) : Sep w F (sb w.heap.size [] :: Δ) (w.alloc (.cells #[.pointer none, .slice none 0 0] 124)) :=
 hΔ.sep ((Below.refl _ _).alloc (Nat.le_refl _) _) hF ⟨Nat.le_refl _, .slice none 0 0, .pointer none, heap_alloc_new w _, World.ownsRow_nil _ _ _ _, by simp [Value.ownBlock], fun g hg => by simp [Value.ownBlock] at hg, .inl rfl⟩ (fun g hg => by injection hg with hg; omega)
theorem Sep.sbIs (hS : Sep w0 F0 Γ W) (hm : At Γ (sb gb l)) : Lib.IsBuilder 124 5 gb gb (Lib.byteCells l) W := by
 obtain ⟨h0, v, p, h1, h2, h3, -, h5⟩ := hS.get hm
 have e : (Lib.byteCells l).length = l.length := Lib.byteCells_length l
 rcases h5 with rfl | rfl
 ·exact .inl ⟨Nat.le_refl _, v, h1, by rw [e]; exact h2, h3⟩
 ·exact .inr ⟨Nat.le_refl _, v, h1, by rw [e]; exact h2, h3⟩
theorem Sep.write (hS : Sep w0 F0 Γ W) (hm : At Γ (sb w0.heap.size l)) (hΔ : FactsW w0 F0 Δ) (s : ByteArray) (hl : l.length + s.size ≤ 1000000) :
  Calls Tryz.prog 63 #[.pointer (some ⟨w0.heap.size, 0, none⟩), .string s] W fun e W' => (∃ v, e = .returned v) ∧ Sep w0 F0 (sb w0.heap.size (l ++ s.data.toList) :: Δ) W' := by
 have hB := hS.sbIs hm
 have e : (Lib.byteCells l).length = l.length := Lib.byteCells_length l
 refine (Any.Builder_WriteString { Tryz.lays156 with } Tryz.Builder_Extra_156 w0.heap.size w0.heap.size (Lib.byteCells l) s W hB (by rw [e]; omega) hS.size).mono ?_
 rintro e w' ⟨rfl, ⟨-, v, h1, h2, h3⟩, h4⟩
 refine ⟨⟨_, rfl⟩, ?_⟩
 have hb : Below w0.heap.size w0 w' := hS.below.trans h4
 rw [Lib.strCells_eq, ← Lib.byteCells_append] at h2
 rw [Lib.byteCells_length] at h2
 refine hΔ.sep hb hS.low ⟨Nat.le_refl _, v, _, h1, h2, h3, fun g hg => ⟨.inr ?_, ?_⟩, .inr rfl⟩ (fun g hg => by injection hg with hg; omega)
 ·exact h2.lt g hg
 ·intro q hq e
  rcases List.mem_cons.1 hq with rfl | hq
  ·exact h3 (hg.trans e.symm)
  ·rw [(hΔ q hq).1] at e; cases e
theorem Sep.text (hS : Sep w0 F0 Γ W) (hm : At Γ (sb w0.heap.size l)) :
  Calls Tryz.prog 66 #[.pointer (some ⟨w0.heap.size, 0, none⟩)] W fun e W' => e = .returned (.string ⟨l.toArray⟩) ∧ Below w0.heap.size w0 W' :=
 (Any.Builder_String_any Tryz.lays169 Tryz.Builder_Extra_169 w0.heap.size w0.heap.size l W (hS.sbIs hm) hS.size).mono fun e w' ⟨h1, h2⟩ => ⟨h1, hS.below.trans h2⟩
section
variable {P : Program} {ops : Array Oper} {Q : Exit → Act → World → Prop} {a : Act} {rest : List Oper} {o : Oper}
theorem wsb (hgd : Region.wanted o (yielded ops a.tmps) = true) (ho : o.op = .alloc 124) (hz : z3u P 124 [.pointer none, .slice none 0 0]) (hΔ : FactsW W (Lt W.heap.size) Δ)
  (k : ∀ W', Sep W (Lt W.heap.size) (sb W.heap.size [] :: Δ) W' → wpList P ops Q rest (a.put o.dst (.pointer (some ⟨W.heap.size, 0, none⟩))) W') : wpList P ops Q (o :: rest) a W :=
 BigFrame.wpList_want hgd fun K hK => by
  obtain ⟨z, hz1, hz2⟩ := hz
  unfold Oper.wp execOp
  simp only [ho, Instr.alloc, newVar, newRow, Sem.run_bind, run_newObj_alloc, Result.andThen_ok, Sem.run_pure, hz2, hz1]
  exact hK _ _ (k _ (Sep.sbStart (fun _ h => h) hΔ))
end
end
attribute [irreducible] sb
theorem Yl.cat {P : Program} {w0 : World} {F0 : Nat → Prop} {Γ : List Res} {o : Oper} {a : Act} {t t' : TypeId} {x y : Operand} {s r : List UInt8} (ho : o.op = .binOp .add t x y t') (hx : a.eval x = .string ⟨s.toArray⟩) (hy : a.eval y = .string ⟨r.toArray⟩) (hl : s.length + r.length ≤ 1000000) : Yl P w0 F0 Γ o a (.string ⟨(s ++ r).toArray⟩) :=
 Yl.pure fun W => by
  have e3 : (⟨s.toArray⟩ ++ ⟨r.toArray⟩ : ByteArray) = ⟨(s ++ r).toArray⟩ := by
   apply ByteArray.ext
   simp
  have hn : ¬ ((((⟨s.toArray⟩ : ByteArray).size + (⟨r.toArray⟩ : ByteArray).size : Nat) : Int) > IntKind.i64.max) := by
   simp only [ByteArray.size, List.size_toArray, IntKind.max, IntKind.bits, IntKind.signed]
   omega
  unfold execOp
  simp only [ho, hx, hy, binOp, Op.stringOp, if_neg hn, e3]
  rfl
theorem z_sb : z3u Tryz.prog 124 [.pointer none, .slice none 0 0] := ⟨.agg #[.pointer none, .slice none 0 0], rfl, Tryz.zeroValue124⟩
section
variable {P : Program} {W : World} {F : Nat → Prop}
theorem zu0 {spec : zd} {f : Nat} {pk : List PK} {d1 d2 : Dt} (hpk : z3d pk = false) (hen : En P f) (hM : Meets P spec f ⟨pk, [(false, [.scal]), (false, [.scal])], true⟩) {ds : List Dt} {us : List Value} (hF : z9e F W) (hs : spec ds = some [d1, d2]) (hargs : PKRs W F pk ds us) :
  Calls P f us.toArray W fun e w' => (∃ v1 v2 F', e = .returned (.tuple #[v1, v2]) ∧ Rep w' F' d1 v1 ∧ Rep w' F' d2 v2) ∧ Below W.heap.size W w' := by
 rcases hM.1 hpk W F ds us _ hF hargs hs with ⟨_, h⟩ | ⟨v, W', h1, _⟩
 ·refine h.mono fun e w' ⟨v, h1, h2, us, F', hR⟩ => ⟨?_, h2⟩
  obtain ⟨vs, rfl, v1, vs1, u1, u2, rfl, rfl, ⟨rfl, -⟩, v2, vs2, u3, u4, rfl, rfl, ⟨rfl, -⟩, rfl, rfl⟩ := hR.val
  exact ⟨v1, v2, F', h1, (hR.cells 0 .scal d1 v1 rfl rfl rfl).2, (hR.cells 1 .scal d2 v2 rfl rfl rfl).2⟩
 ·rw [hen.run] at h1; cases h1
end
theorem z94 (n : Int) (hn : I64 n) {W : World} (hG : Glob W) : Calls Tryz.prog 64 #[.int .i64 n] W fun e w' => e = .returned (.string ⟨(itoa n).toArray⟩) ∧ Below W.heap.size W w' := by
 refine (Any.strconv_Itoa Tryz.lays171 n hn.1 hn.2 W hG.1).mono ?_
 rintro e w' ⟨rfl, k, os, rfl⟩
 exact ⟨rfl, Go.Lib.below_grow _ _ (Nat.le_refl _) k os⟩
theorem zh4 (l : List Op) {A : Option Addr} {n c : Nat} {W : World} {F : Nat → Prop} (hF : z9e F W) (h : Rds shOp W F l A n c) :
  Calls Tryz.prog 65 #[.slice A n c] W fun e w' => e = .returned (.tuple #[.string ⟨(z2c l).1.toArray⟩, .int .i64 (z2c l).2]) ∧ Below W.heap.size W w' := by
 refine (zu0 (us := [.slice A n c]) rfl (z22 (fn := Tryz.f65) (by kernel_rfl) (by kernel_rfl) (by kernel_rfl)) zxw hF (zja l) (zir (zci z90 h) ziq)).mono ?_
 rintro e w' ⟨⟨v1, v2, F', rfl, h1, h2⟩, h3⟩
 obtain ⟨rfl, -⟩ := z2d h1
 obtain ⟨rfl, -⟩ := zkt h2
 exact ⟨rfl, h3⟩
end
section
open Go.RowKit Go.Shelf
open Go.Lib (itoa)
set_option maxRecDepth 100000
set_option maxHeartbeats 4000000 in
theorem zni (t : Tx) (cs : List Value) {w0 W : World} {F0 : Nat → Prop} {Γ : List Res} (hS : Sep w0 F0 Γ W) (ht : At Γ (rep t cs shTx)) (hG : Glob w0) :
  Calls Tryz.prog 22 #[.agg cs.toArray] W (RV w0 F0 Γ (.tuple #[.string ⟨(z0m t).1.toArray⟩, .int .i64 (z0m t).2])) := by
 (have hO := hS.open_tx ht; clear hS; obtain ⟨A, n, c, A2, n2, c2, rfl, i1, hS⟩ := hO)
 obtain ⟨hl1, hn1, hc1⟩ := hS.len (xs := t.ins) (by repeat (first | with_reducible exact At.z | assumption | apply At.s))
 obtain ⟨hl2, hn2, hc2⟩ := hS.len (xs := t.outs) (by repeat (first | with_reducible exact At.z | assumption | apply At.s))
 have HP := Lib.hid (show z0m t = if zl t ≠ 0 then ([], zl t) else (z0e t, 0) from rfl)
 generalize z0m t = R at *
 have L1 := Lib.hid hl1
 have L2 := Lib.hid hl2
 clear hl1 hl2
 go_enter Tryz.func22, Tryz.ntmps22
 (go_wp2_with (first | (refine Sep.wbox hS (by rfl) rfl rfl ?_; clear hS; intro gt W hS; refine Stop.go ?_) | (refine Sep.walloc hS (by rfl) rfl (by first | exact zc0 | exact z4v | exact zc1 | exact z8s | exact zc2 | exact z6g | exact z6h | exact z6i | exact z4w | exact z6j | exact z8t | exact z4x | exact z6k | exact z8u) ?_; clear hS; intro gt W hS; refine Stop.go ?_) | (first | (refine Sep.wload1b hS (by rfl) rfl rfl (zn rfl) (by repeat (first | with_reducible exact At.z | assumption | apply At.s)) rfl ?_) | (refine Sep.wloadNb hS (by rfl) rfl rfl (by repeat (first | with_reducible exact At.z | assumption | apply At.s)) (zw rfl) ?_) | (refine Sep.wload1z hS (by rfl) rfl rfl (zn rfl) (by repeat (first | with_reducible exact At.z | assumption | apply At.s)) rfl ?_) | (refine Sep.wload1c hS (by rfl) rfl rfl (zn rfl) (by repeat (first | with_reducible exact At.z | assumption | apply At.s)) rfl ?_) | (refine Sep.wloadNz hS (by rfl) rfl rfl (by repeat (first | with_reducible exact At.z | assumption | apply At.s)) (zw rfl) ?_) | (refine Sep.walloc hS (by rfl) rfl (by first | exact zc0 | exact z4v | exact zc1 | exact z8s | exact zc2 | exact z6g | exact z6h | exact z6i | exact z4w | exact z6j | exact z8t | exact z4x | exact z6k | exact z8u) ?_; clear hS; intro g W hS) | (refine Sep.wbox hS (by rfl) rfl rfl ?_; clear hS; intro g W hS) | (refine Sep.wstoreNb hS (by rfl) rfl rfl rfl (zw rfl) (by simp [z99, Value.oneCell']) (by repeat (first | with_reducible exact At.z | assumption | apply At.s)) (by rfl) (by repeat (first | with_reducible exact Put.z | apply Put.s)) ?_; clear hS; intro W hS))); refine Stop.mk ?_)
 go_wp2_with ((first | (refine Sep.wload1b hS (by rfl) rfl rfl (zn rfl) (by repeat (first | with_reducible exact At.z | assumption | apply At.s)) rfl ?_) | (refine Sep.wloadNb hS (by rfl) rfl rfl (by repeat (first | with_reducible exact At.z | assumption | apply At.s)) (zw rfl) ?_) | (refine Sep.wload1z hS (by rfl) rfl rfl (zn rfl) (by repeat (first | with_reducible exact At.z | assumption | apply At.s)) rfl ?_) | (refine Sep.wload1c hS (by rfl) rfl rfl (zn rfl) (by repeat (first | with_reducible exact At.z | assumption | apply At.s)) rfl ?_) | (refine Sep.wloadNz hS (by rfl) rfl rfl (by repeat (first | with_reducible exact At.z | assumption | apply At.s)) (zw rfl) ?_) | (refine Sep.walloc hS (by rfl) rfl (by first | exact zc0 | exact z4v | exact zc1 | exact z8s | exact zc2 | exact z6g | exact z6h | exact z6i | exact z4w | exact z6j | exact z8t | exact z4x | exact z6k | exact z8u) ?_; clear hS; intro g W hS) | (refine Sep.wbox hS (by rfl) rfl rfl ?_; clear hS; intro g W hS) | (refine Sep.wstoreNb hS (by rfl) rfl rfl rfl (zw rfl) (by simp [z99, Value.oneCell']) (by repeat (first | with_reducible exact At.z | assumption | apply At.s)) (by rfl) (by repeat (first | with_reducible exact Put.z | apply Put.s)) ?_; clear hS; intro W hS)))
 refine (hS.old (zbr t [_, _, _] _ _ (hS.ltsRep (At.s (At.s (At.s ht)))) (fun b hb => hb))).mono ?_; clear hS; rintro e W ⟨rfl, hS⟩
 rcases Classical.em (zl t = 0) with h0 | h0
 ·rw [h0]
  have HR : Hid (R = (z0e t, 0)) := Lib.hid (by rw [HP.out, if_neg (fun h => h h0)])
  have H0 := Lib.hid h0
  have hlen : n ≤ 6 ∧ n2 ≤ 6 := by
   have q := h0
   unfold zl z1u at q
   have := L1.out
   have := L2.out
   by_cases h6 : 6 < t.ins.length ∨ 6 < t.outs.length
   ·rw [if_pos h6] at q; simp at q
   ·omega
  clear h0 HP
  have b0 := hS.boxCell (g := gt) At.z 0 _ rfl
  have b1 := hS.boxCell (g := gt) At.z 1 _ rfl
  have b2 := hS.boxCell (g := gt) At.z 2 _ rfl
  have gl : gt < W.heap.size := (Array.getElem?_eq_some_iff.1 (hS.getBox (g := gt) At.z).2).1
  have hΔ : FactsW W (Lt W.heap.size) [rds t.ins A n c shIn, rds t.outs A2 n2 c2 shOut] := .rds (hS.ltsRds (by repeat (first | with_reducible exact At.z | assumption | apply At.s))) (.rds (hS.ltsRds (by repeat (first | with_reducible exact At.z | assumption | apply At.s))) .nil)
  have hG1 : Glob W := hG.on hS.below
  obtain ⟨h, ins, outs⟩ := t
  simp only at *
  rename World => Wb
  have hSo := hS
  clear hS
  (go_wp2_with (first | (refine wsb (by rfl) rfl z_sb hΔ ?_; intro W1 hS; refine Stop.go ?_)); refine Stop.mk ?_)
  have c0 := (hS.below.cell (p := ⟨gt, 0, none⟩) gl).trans b0
  go_wp2_with fail
  refine (hS.old (z94 h i1 (hG1.on hS.below))).mono ?_; clear hS; rintro e W ⟨rfl, hS⟩
  have li := z4k h i1
  go_wp2_with fail
  refine (hS.write (l := []) (by repeat (first | with_reducible exact At.z | assumption | apply At.s)) hΔ _ (by simp [ByteArray.size]; omega)).mono ?_
  clear hS
  rintro e W2 ⟨⟨v, rfl⟩, hS⟩
  have c1 := (hS.below.cell (p := ⟨gt, 1, none⟩) gl).trans b1
  go_wp2_with fail
  have e0 : [] ++ ((⟨#[116, 120, 32]⟩ : ByteArray) ++ ⟨(itoa h).toArray⟩ ++ ⟨#[10]⟩).data.toList = z3p ⟨h, ins, outs⟩ := by simp [ByteArray.data_append, z3p]
  rw [e0] at hS
  clear e0
  have lh : (z3p ⟨h, ins, outs⟩).length ≤ 24 := by simp [z3p]; omega
  go_loopw [7, 8, 9, 28] (fun _ _ _ i wr => ∃ k : Nat, k ≤ n ∧ i = .int .i64 k ∧ ∃ l : List UInt8, l.length ≤ 24 + 200 * k ∧ Hid (l = z3p ⟨h, ins, outs⟩ ++ (ins.take k).flatMap z3t) ∧ Sep Wb (Lt Wb.heap.size) (sb Wb.heap.size l :: rds ins A n c shIn :: rds outs A2 n2 c2 shOut :: []) wr) (fun _ _ _ i _ => n - (intOf i).toNat)
  case atStart => exact ⟨0, by omega, rfl, z3p ⟨h, ins, outs⟩, by omega, Lib.hid (by simp), hS.sub (by repeat (first | with_reducible exact Sub.refl | with_reducible exact Sub.nil | refine Sub.take (by repeat (first | with_reducible exact Del.z | apply Del.s)) ?_ | apply Sub.skip))⟩
  case round =>
   clear hS c1 c0
   obtain ⟨k, hk, rfl, l, hl, HL, hS⟩ := hrel
   rcases Classical.em (k < n) with hlt | hlt
   ·(have hO := hS.elemIn (xs := ins) (by repeat (first | with_reducible exact At.z | assumption | apply At.s)) hlt; clear hS; obtain ⟨b, off, x, A1, n1, c1, rfl, hx, j1, j2, hS⟩ := hO)
    have HX := Lib.hid hx
    have k1 : (0 : Int) ≤ (k : Int) := by omega
    have k2 : (k : Int) < (n : Int) := by omega
    clear hx
    obtain ⟨⟨ptx, pat⟩, key⟩ := x
    simp only at j1 j2 hS
    (go_wp2_with (first | (refine Sep.wloadNz hS (by rfl) rfl rfl (by repeat (first | with_reducible exact At.z | assumption | apply At.s)) (zw rfl) ?_) | (refine Sep.walloc hS (by rfl) rfl (by first | exact zc0 | exact z4v | exact zc1 | exact z8s | exact zc2 | exact z6g | exact z6h | exact z6i | exact z4w | exact z6j | exact z8t | exact z4x | exact z6k | exact z8u) ?_; clear hS; intro g W hS) | (refine Sep.wstoreNb hS (by rfl) rfl rfl rfl (zw rfl) (by simp [z99, Value.oneCell']) (by repeat (first | with_reducible exact At.z | assumption | apply At.s)) (by rfl) (by repeat (first | with_reducible exact Put.z | apply Put.s)) ?_; clear hS; intro W hS; refine Stop.go ?_)); refine Stop.mk ?_)
    have x2 := hS.boxCell (g := g) (cs := [.int .i64 ptx, .int .i64 pat, .slice A1 n1 c1]) (by repeat (first | with_reducible exact At.z | assumption | apply At.s)) 2 _ rfl
    go_wp2_with fail
    refine (hS.old (zh4 key ⟨fun b hb => hb, hG1.on hS.below⟩ (hS.ltsRds (by repeat (first | with_reducible exact At.z | assumption | apply At.s))))).mono ?_; clear hS; rintro e W ⟨rfl, hS⟩
    clear x2
    have lp := z9m key
    have l1 := z4k ptx j1
    have l2 := z4k pat j2
    go_wp2_with fail
    (refine Sep.regionT hS [15] (by kernel_rfl) ?_; clear hS; intro W hS)
    (refine z16 0 rfl rfl (by (first | exact Yl.move rfl | exact Yl.assign rfl | exact Yl.load1b rfl rfl (zn rfl) (by repeat (first | with_reducible exact At.z | assumption | apply At.s)) rfl | exact Yl.loadNb rfl rfl (by repeat (first | with_reducible exact At.z | assumption | apply At.s)) (zw rfl) | exact Yl.load1z rfl rfl (zn rfl) (by repeat (first | with_reducible exact At.z | assumption | apply At.s)) rfl | exact Yl.load1c rfl rfl (zn rfl) (by repeat (first | with_reducible exact At.z | assumption | apply At.s)) rfl | exact Yl.loadNz rfl rfl (by repeat (first | with_reducible exact At.z | assumption | apply At.s)) (zw rfl) | (apply Yl.pure; intro W; go_simp; with_reducible rfl))) (hS.sub (by repeat (first | with_reducible exact Sub.refl | with_reducible exact Sub.nil | refine Sub.take (by repeat (first | with_reducible exact Del.z | apply Del.s)) ?_ | apply Sub.skip))) (by kernel_rfl) (fun _ _ _ h => h) ?_; simp only [Act.put, List.setIfInBounds_toArray, List.set_cons_zero, List.set_cons_succ])
    (refine z16 1 rfl rfl (by (first | exact Yl.move rfl | exact Yl.assign rfl | exact Yl.load1b rfl rfl (zn rfl) (by repeat (first | with_reducible exact At.z | assumption | apply At.s)) rfl | exact Yl.loadNb rfl rfl (by repeat (first | with_reducible exact At.z | assumption | apply At.s)) (zw rfl) | exact Yl.load1z rfl rfl (zn rfl) (by repeat (first | with_reducible exact At.z | assumption | apply At.s)) rfl | exact Yl.load1c rfl rfl (zn rfl) (by repeat (first | with_reducible exact At.z | assumption | apply At.s)) rfl | exact Yl.loadNz rfl rfl (by repeat (first | with_reducible exact At.z | assumption | apply At.s)) (zw rfl) | (apply Yl.pure; intro W; go_simp; with_reducible rfl))) (hS.sub (by repeat (first | with_reducible exact Sub.refl | with_reducible exact Sub.nil | refine Sub.take (by repeat (first | with_reducible exact Del.z | apply Del.s)) ?_ | apply Sub.skip))) (by kernel_rfl) (fun _ _ _ h => h) ?_; simp only [Act.put, List.setIfInBounds_toArray, List.set_cons_zero, List.set_cons_succ])
    (refine z16 2 rfl rfl (by (first | exact Yl.move rfl | exact Yl.assign rfl | exact Yl.load1b rfl rfl (zn rfl) (by repeat (first | with_reducible exact At.z | assumption | apply At.s)) rfl | exact Yl.loadNb rfl rfl (by repeat (first | with_reducible exact At.z | assumption | apply At.s)) (zw rfl) | exact Yl.load1z rfl rfl (zn rfl) (by repeat (first | with_reducible exact At.z | assumption | apply At.s)) rfl | exact Yl.load1c rfl rfl (zn rfl) (by repeat (first | with_reducible exact At.z | assumption | apply At.s)) rfl | exact Yl.loadNz rfl rfl (by repeat (first | with_reducible exact At.z | assumption | apply At.s)) (zw rfl) | (apply Yl.pure; intro W; go_simp; with_reducible rfl))) (hS.sub (by repeat (first | with_reducible exact Sub.refl | with_reducible exact Sub.nil | refine Sub.take (by repeat (first | with_reducible exact Del.z | apply Del.s)) ?_ | apply Sub.skip))) (by kernel_rfl) (fun _ _ _ h => h) ?_; simp only [Act.put, List.setIfInBounds_toArray, List.set_cons_zero, List.set_cons_succ])
    (refine z16 6 rfl rfl (by (first | exact Yl.move rfl | exact Yl.assign rfl | exact Yl.load1b rfl rfl (zn rfl) (by repeat (first | with_reducible exact At.z | assumption | apply At.s)) rfl | exact Yl.loadNb rfl rfl (by repeat (first | with_reducible exact At.z | assumption | apply At.s)) (zw rfl) | exact Yl.load1z rfl rfl (zn rfl) (by repeat (first | with_reducible exact At.z | assumption | apply At.s)) rfl | exact Yl.load1c rfl rfl (zn rfl) (by repeat (first | with_reducible exact At.z | assumption | apply At.s)) rfl | exact Yl.loadNz rfl rfl (by repeat (first | with_reducible exact At.z | assumption | apply At.s)) (zw rfl) | (apply Yl.pure; intro W; go_simp; with_reducible rfl))) (hS.sub (by repeat (first | with_reducible exact Sub.refl | with_reducible exact Sub.nil | refine Sub.take (by repeat (first | with_reducible exact Del.z | apply Del.s)) ?_ | apply Sub.skip))) (by kernel_rfl) (fun _ _ _ h => h) ?_; simp only [Act.put, List.setIfInBounds_toArray, List.set_cons_zero, List.set_cons_succ])
    (refine z16 7 rfl rfl (by (first | exact Yl.move rfl | exact Yl.assign rfl | exact Yl.load1b rfl rfl (zn rfl) (by repeat (first | with_reducible exact At.z | assumption | apply At.s)) rfl | exact Yl.loadNb rfl rfl (by repeat (first | with_reducible exact At.z | assumption | apply At.s)) (zw rfl) | exact Yl.load1z rfl rfl (zn rfl) (by repeat (first | with_reducible exact At.z | assumption | apply At.s)) rfl | exact Yl.load1c rfl rfl (zn rfl) (by repeat (first | with_reducible exact At.z | assumption | apply At.s)) rfl | exact Yl.loadNz rfl rfl (by repeat (first | with_reducible exact At.z | assumption | apply At.s)) (zw rfl) | (apply Yl.pure; intro W; go_simp; with_reducible rfl))) (hS.sub (by repeat (first | with_reducible exact Sub.refl | with_reducible exact Sub.nil | refine Sub.take (by repeat (first | with_reducible exact Del.z | apply Del.s)) ?_ | apply Sub.skip))) (by kernel_rfl) (fun _ _ _ h => h) ?_; simp only [Act.put, List.setIfInBounds_toArray, List.set_cons_zero, List.set_cons_succ])
    (refine z16 8 rfl rfl (by (first | exact Yl.move rfl | exact Yl.assign rfl | exact Yl.load1b rfl rfl (zn rfl) (by repeat (first | with_reducible exact At.z | assumption | apply At.s)) rfl | exact Yl.loadNb rfl rfl (by repeat (first | with_reducible exact At.z | assumption | apply At.s)) (zw rfl) | exact Yl.load1z rfl rfl (zn rfl) (by repeat (first | with_reducible exact At.z | assumption | apply At.s)) rfl | exact Yl.load1c rfl rfl (zn rfl) (by repeat (first | with_reducible exact At.z | assumption | apply At.s)) rfl | exact Yl.loadNz rfl rfl (by repeat (first | with_reducible exact At.z | assumption | apply At.s)) (zw rfl) | (apply Yl.pure; intro W; go_simp; with_reducible rfl))) (hS.sub (by repeat (first | with_reducible exact Sub.refl | with_reducible exact Sub.nil | refine Sub.take (by repeat (first | with_reducible exact Del.z | apply Del.s)) ?_ | apply Sub.skip))) (by kernel_rfl) (fun _ _ _ h => h) ?_; simp only [Act.put, List.setIfInBounds_toArray, List.set_cons_zero, List.set_cons_succ])
    (refine z16 12 rfl rfl (by (first | exact Yl.move rfl | exact Yl.assign rfl | exact Yl.load1b rfl rfl (zn rfl) (by repeat (first | with_reducible exact At.z | assumption | apply At.s)) rfl | exact Yl.loadNb rfl rfl (by repeat (first | with_reducible exact At.z | assumption | apply At.s)) (zw rfl) | exact Yl.load1z rfl rfl (zn rfl) (by repeat (first | with_reducible exact At.z | assumption | apply At.s)) rfl | exact Yl.load1c rfl rfl (zn rfl) (by repeat (first | with_reducible exact At.z | assumption | apply At.s)) rfl | exact Yl.loadNz rfl rfl (by repeat (first | with_reducible exact At.z | assumption | apply At.s)) (zw rfl) | (apply Yl.pure; intro W; go_simp; with_reducible rfl))) (hS.sub (by repeat (first | with_reducible exact Sub.refl | with_reducible exact Sub.nil | refine Sub.take (by repeat (first | with_reducible exact Del.z | apply Del.s)) ?_ | apply Sub.skip))) (by kernel_rfl) (fun _ _ _ h => h) ?_; simp only [Act.put, List.setIfInBounds_toArray, List.set_cons_zero, List.set_cons_succ])
    refine zfr 3 (by kernel_rfl) rfl ?_
    go_wp2_with fail
    refine (hS.old (z94 ptx j1 (hG1.on hS.below))).mono ?_; clear hS; rintro e W ⟨rfl, hS⟩
    go_wp2_with fail
    (refine ⟨fun _ => hS.sub (by repeat (first | with_reducible exact Sub.refl | with_reducible exact Sub.nil | refine Sub.take (by repeat (first | with_reducible exact Del.z | apply Del.s)) ?_ | apply Sub.skip)), ?_⟩; try simp only [Act.put, List.setIfInBounds_toArray, List.set_cons_zero, List.set_cons_succ])
    (refine z16 4 rfl rfl (Yl.cat rfl rfl rfl (by simp only [List.length_append, List.length_cons, List.length_nil]; omega)) (hS.sub (by repeat (first | with_reducible exact Sub.refl | with_reducible exact Sub.nil | refine Sub.take (by repeat (first | with_reducible exact Del.z | apply Del.s)) ?_ | apply Sub.skip))) (by kernel_rfl) (fun _ _ _ h => h) ?_; simp only [Act.put, List.setIfInBounds_toArray, List.set_cons_zero, List.set_cons_succ])
    (refine z16 5 rfl rfl (Yl.cat rfl rfl rfl (by simp only [List.length_append, List.length_cons, List.length_nil]; omega)) (hS.sub (by repeat (first | with_reducible exact Sub.refl | with_reducible exact Sub.nil | refine Sub.take (by repeat (first | with_reducible exact Del.z | apply Del.s)) ?_ | apply Sub.skip))) (by kernel_rfl) (fun _ _ _ h => h) ?_; simp only [Act.put, List.setIfInBounds_toArray, List.set_cons_zero, List.set_cons_succ])
    refine zfr 9 (by kernel_rfl) rfl ?_
    go_wp2_with fail
    refine (hS.old (z94 pat j2 (hG1.on hS.below))).mono ?_; clear hS; rintro e W ⟨rfl, hS⟩
    go_wp2_with fail
    (refine ⟨fun _ => hS.sub (by repeat (first | with_reducible exact Sub.refl | with_reducible exact Sub.nil | refine Sub.take (by repeat (first | with_reducible exact Del.z | apply Del.s)) ?_ | apply Sub.skip)), ?_⟩; try simp only [Act.put, List.setIfInBounds_toArray, List.set_cons_zero, List.set_cons_succ])
    (refine z16 10 rfl rfl (Yl.cat rfl rfl rfl (by simp only [List.length_append, List.length_cons, List.length_nil]; omega)) (hS.sub (by repeat (first | with_reducible exact Sub.refl | with_reducible exact Sub.nil | refine Sub.take (by repeat (first | with_reducible exact Del.z | apply Del.s)) ?_ | apply Sub.skip))) (by kernel_rfl) (fun _ _ _ h => h) ?_; simp only [Act.put, List.setIfInBounds_toArray, List.set_cons_zero, List.set_cons_succ])
    (refine z16 11 rfl rfl (Yl.cat rfl rfl rfl (by simp only [List.length_append, List.length_cons, List.length_nil]; omega)) (hS.sub (by repeat (first | with_reducible exact Sub.refl | with_reducible exact Sub.nil | refine Sub.take (by repeat (first | with_reducible exact Del.z | apply Del.s)) ?_ | apply Sub.skip))) (by kernel_rfl) (fun _ _ _ h => h) ?_; simp only [Act.put, List.setIfInBounds_toArray, List.set_cons_zero, List.set_cons_succ])
    (refine z16 13 rfl rfl (Yl.cat rfl rfl rfl (by simp only [List.length_append, List.length_cons, List.length_nil]; omega)) (hS.sub (by repeat (first | with_reducible exact Sub.refl | with_reducible exact Sub.nil | refine Sub.take (by repeat (first | with_reducible exact Del.z | apply Del.s)) ?_ | apply Sub.skip))) (by kernel_rfl) (fun _ _ _ h => h) ?_; simp only [Act.put, List.setIfInBounds_toArray, List.set_cons_zero, List.set_cons_succ])
    (refine z16 14 rfl rfl (Yl.cat rfl rfl rfl (by simp only [List.length_append, List.length_cons, List.length_nil]; omega)) (hS.sub (by repeat (first | with_reducible exact Sub.refl | with_reducible exact Sub.nil | refine Sub.take (by repeat (first | with_reducible exact Del.z | apply Del.s)) ?_ | apply Sub.skip))) (by kernel_rfl) (fun _ _ _ h => h) ?_; simp only [Act.put, List.setIfInBounds_toArray, List.set_cons_zero, List.set_cons_succ])
    refine zfr 15 (by kernel_rfl) rfl ?_
    go_wp2_with fail
    refine (hS.write (l := l) (by repeat (first | with_reducible exact At.z | assumption | apply At.s)) hΔ _ (by simp [ByteArray.size]; omega)).mono ?_
    clear hS
    rintro e W2 ⟨⟨v, rfl⟩, hS⟩
    go_wp2_with fail
    (refine ⟨fun h => z00a (by kernel_rfl) h, ?_⟩; try simp only [Act.put, List.setIfInBounds_toArray, List.set_cons_zero, List.set_cons_succ])
    refine zh3 (by kernel_rfl) ?_
    go_wp2_with fail
    rw [show l ++ 105 :: 110 :: 32 :: (itoa ptx ++ 32 :: (itoa pat ++ 58 :: ((z2c key).1 ++ [10]))) = l ++ z3t ⟨⟨ptx, pat⟩, key⟩ by simp [z3t]] at hS
    go_roundw
    case measure => simp [intOf]; omega
    case rel => exact ⟨k + 1, by omega, by go_num, l ++ z3t ⟨⟨ptx, pat⟩, key⟩, by simp [z3t]; omega, Lib.hid (by rw [z2p HX.out, HL.out]; simp), hS.sub (by repeat (first | with_reducible exact Sub.refl | with_reducible exact Sub.nil | refine Sub.take (by repeat (first | with_reducible exact Del.z | apply Del.s)) ?_ | apply Sub.skip))⟩
   ·obtain rfl : k = n := by omega
    have d2 := (hS.below.cell (p := ⟨gt, 2, none⟩) gl).trans b2
    have HL2 : Hid (l = z3p ⟨h, ins, outs⟩ ++ ins.flatMap z3t) := Lib.hid (by rw [HL.out, List.take_of_length_le (by have := L1.out; omega)])
    clear HL
    go_wp2_with fail
    clear d2
    go_loopw [11, 12, 13, 58] (fun _ _ _ i wr => ∃ k : Nat, k ≤ n2 ∧ i = .int .i64 k ∧ ∃ m : List UInt8, m.length ≤ l.length + 200 * k ∧ Hid (m = l ++ (outs.take k).flatMap z38) ∧ Sep Wb (Lt Wb.heap.size) (sb Wb.heap.size m :: rds outs A2 n2 c2 shOut :: []) wr) (fun _ _ _ i _ => n2 - (intOf i).toNat)
    case atStart => exact ⟨0, by omega, rfl, l, by omega, Lib.hid (by simp), hS.sub (by repeat (first | with_reducible exact Sub.refl | with_reducible exact Sub.nil | refine Sub.take (by repeat (first | with_reducible exact Del.z | apply Del.s)) ?_ | apply Sub.skip))⟩
    case round =>
     clear hS
     obtain ⟨k, hk, rfl, m, hm, HM, hS⟩ := hrel
     rcases Classical.em (k < n2) with hlt | hlt
     ·(have hO := hS.elemOut (xs := outs) (by repeat (first | with_reducible exact At.z | assumption | apply At.s)) hlt; clear hS; obtain ⟨b, off, x, A1, n1, c1, rfl, hx, j1, hS⟩ := hO)
      have HX := Lib.hid hx
      have k1 : (0 : Int) ≤ (k : Int) := by omega
      have k2 : (k : Int) < (n2 : Int) := by omega
      clear hx
      obtain ⟨coin, lock⟩ := x
      simp only at j1 hS
      (go_wp2_with (first | (refine Sep.wloadNz hS (by rfl) rfl rfl (by repeat (first | with_reducible exact At.z | assumption | apply At.s)) (zw rfl) ?_) | (refine Sep.walloc hS (by rfl) rfl (by first | exact zc0 | exact z4v | exact zc1 | exact z8s | exact zc2 | exact z6g | exact z6h | exact z6i | exact z4w | exact z6j | exact z8t | exact z4x | exact z6k | exact z8u) ?_; clear hS; intro g W hS) | (refine Sep.wstoreNb hS (by rfl) rfl rfl rfl (zw rfl) (by simp [z99, Value.oneCell']) (by repeat (first | with_reducible exact At.z | assumption | apply At.s)) (by rfl) (by repeat (first | with_reducible exact Put.z | apply Put.s)) ?_; clear hS; intro W hS; refine Stop.go ?_)); refine Stop.mk ?_)
      have x1 := hS.boxCell (g := g) (cs := [.int .i64 coin, .slice A1 n1 c1]) (by repeat (first | with_reducible exact At.z | assumption | apply At.s)) 1 _ rfl
      go_wp2_with fail
      refine (hS.old (zh4 lock ⟨fun b hb => hb, hG1.on hS.below⟩ (hS.ltsRds (by repeat (first | with_reducible exact At.z | assumption | apply At.s))))).mono ?_; clear hS; rintro e W ⟨rfl, hS⟩
      clear x1
      have lp := z9m lock
      have l1 := z4k coin j1
      have x0 := hS.boxCell (g := g) (cs := [.int .i64 coin, .slice A1 n1 c1]) (by repeat (first | with_reducible exact At.z | assumption | apply At.s)) 0 _ rfl
      go_wp2_with fail
      refine (hS.old (z94 coin j1 (hG1.on hS.below))).mono ?_; clear hS; rintro e W ⟨rfl, hS⟩
      clear x0
      go_wp2_with fail
      refine (hS.write (l := m) (by repeat (first | with_reducible exact At.z | assumption | apply At.s)) hΔ _ (by simp [ByteArray.size]; omega)).mono ?_
      clear hS
      rintro e W2 ⟨⟨v, rfl⟩, hS⟩
      go_wp2_with fail
      have e2 : ((⟨#[111, 117, 116, 32]⟩ : ByteArray) ++ ⟨(itoa coin).toArray⟩ ++ ⟨#[58]⟩ ++ ⟨(z2c lock).1.toArray⟩ ++ ⟨#[10]⟩).data.toList = z38 ⟨coin, lock⟩ := by simp [ByteArray.data_append, z38]
      rw [e2] at hS
      clear e2
      go_roundw
      case measure => simp [intOf]; omega
      case rel => exact ⟨k + 1, by omega, by go_num, m ++ z38 ⟨coin, lock⟩, by simp [z38]; omega, Lib.hid (by rw [z2p HX.out, HM.out]; simp), hS.sub (by repeat (first | with_reducible exact Sub.refl | with_reducible exact Sub.nil | refine Sub.take (by repeat (first | with_reducible exact Del.z | apply Del.s)) ?_ | apply Sub.skip))⟩
     ·obtain rfl : k = n2 := by omega
      go_wp2_with fail
      refine (hS.text (by repeat (first | with_reducible exact At.z | assumption | apply At.s))).mono ?_
      clear hS
      rintro e W3 ⟨rfl, hB⟩
      have hS := hSo.belows hB
      go_wp2_with fail
      have em : m = z0e ⟨h, ins, outs⟩ := by rw [HM.out, HL2.out, List.take_of_length_le (by have := L2.out; omega)]; rfl
      rw [em]
      refine bodyPost_ret (zdw rfl (by first | exact Got.tmp rfl | exact Got.boxN hS rfl (by repeat (first | with_reducible exact At.z | assumption | apply At.s)) (zw rfl) | exact Got.box1 hS rfl (by repeat (first | with_reducible exact At.z | assumption | apply At.s)) (zn rfl)) (by first | exact Got.tmp rfl | exact Got.boxN hS rfl (by repeat (first | with_reducible exact At.z | assumption | apply At.s)) (zw rfl) | exact Got.box1 hS rfl (by repeat (first | with_reducible exact At.z | assumption | apply At.s)) (zn rfl))) rfl ?_
      exact ⟨by rw [HR.out]; rfl, hS.sub (by repeat (first | with_reducible exact Sub.refl | with_reducible exact Sub.nil | refine Sub.take (by repeat (first | with_reducible exact Del.z | apply Del.s)) ?_ | apply Sub.skip))⟩
 ·have q : ((zl t) != 0) = true := by simp [h0]
  have HR : Hid (R = ([], zl t)) := Lib.hid (by rw [HP.out, if_pos h0])
  clear h0 HP
  go_wp2_with fail
  refine bodyPost_ret (zdw rfl (by first | exact Got.tmp rfl | exact Got.boxN hS rfl (by repeat (first | with_reducible exact At.z | assumption | apply At.s)) (zw rfl) | exact Got.box1 hS rfl (by repeat (first | with_reducible exact At.z | assumption | apply At.s)) (zn rfl)) (by first | exact Got.tmp rfl | exact Got.boxN hS rfl (by repeat (first | with_reducible exact At.z | assumption | apply At.s)) (zw rfl) | exact Got.box1 hS rfl (by repeat (first | with_reducible exact At.z | assumption | apply At.s)) (zn rfl))) rfl ?_
  exact ⟨by rw [HR.out]; rfl, hS.sub (by repeat (first | with_reducible exact Sub.refl | with_reducible exact Sub.nil | refine Sub.take (by repeat (first | with_reducible exact Del.z | apply Del.s)) ?_ | apply Sub.skip))⟩
end
section
open Go.RowKit Go.Shelf
open Go.Lib (itoa)
set_option maxRecDepth 100000
noncomputable def z4l : zd := spD (fun _ : Tx => True) fun t => z0m t
theorem zox (t : Tx) : z4l (eTx t) = some [.s (z0m t).1, I (z0m t).2] := zm (f := fun t : Tx => z0m t) t trivial
theorem z01u (t : Tx) : I64 (z0m t).2 := by
 unfold z0m
 split
 ·exact (z01n t).i64
 ·show I64 0
  exact ⟨by decide, by decide⟩
theorem z04m : Meets Tryz.prog z4l 22 ⟨[.agg 3], [(false, [.scal]), (false, [.scal])], true⟩ :=
 z2f rfl (z22 (fn := Tryz.f22) (by kernel_rfl) (by kernel_rfl) (by kernel_rfl)) fun t _ W F us hF h => by
  obtain ⟨cs, rfl, hr⟩ := zdc h
  have hS : Sep W F [rep t cs shTx] W := (Sep.start W F hF.1).addRep (S := shTx) (shTx.more (fun b hb => ⟨.inl hb, by simp⟩) (she_tx.of hr))
  refine (zni t cs hS At.z hF.2).mono ?_
  rintro e w' ⟨rfl, hS'⟩
  exact ⟨_, rfl, hS'.below, z7h rfl rfl (.s _ (by have := zi6 t; omega)) (.i _ _ (wrap_i64 (z01u t)))⟩
theorem Yl.base {P : Program} {w0 : World} {F0 : Nat → Prop} {Γ : List Res} {o : Oper} {a : Act} {t : TypeId} {x : Operand} {g j : Nat} {v : Value} (ho : o.op = .load t x) (hx : a.eval x = .pointer (some ⟨g, j, none⟩)) (h1 : OneT P t) (hg : g < w0.heap.size) (hc : w0.cell? ⟨g, j, none⟩ = some v) : Yl P w0 F0 Γ o a v :=
 Yl.load ho hx fun W hS => h1.load ((hS.below.cell (p := ⟨g, j, none⟩) hg).trans hc)
set_option maxHeartbeats 4000000 in
theorem z01v (t : Block) (cs : List Value) {w0 W : World} {F0 : Nat → Prop} {Γ : List Res} (hS : Sep w0 F0 Γ W) (ht : At Γ (rep t cs shBlock)) (hG : Glob w0) :
  Calls Tryz.prog 31 #[.agg cs.toArray] W (RV w0 F0 Γ (.tuple #[.string ⟨(z06 t).1.toArray⟩, .int .i64 (z06 t).2])) := by
 (have hO := hS.open_block ht; clear hS; obtain ⟨A, n, c, rfl, i1, i2, i3, i4, hS⟩ := hO)
 obtain ⟨hl1, hn1, hc1⟩ := hS.len (xs := t.txs) (by repeat (first | with_reducible exact At.z | assumption | apply At.s))
 have HP := Lib.hid (show z06 t = if zp t ≠ 0 then ([], zp t) else (z1l t, 0) from rfl)
 generalize z06 t = R at *
 have L1 := Lib.hid hl1
 clear hl1
 go_enter Tryz.func31, Tryz.ntmps31
 (go_wp2_with (first | (refine Sep.wbox hS (by rfl) rfl rfl ?_; clear hS; intro gt W hS; refine Stop.go ?_) | (refine Sep.walloc hS (by rfl) rfl (by first | exact zc0 | exact z4v | exact zc1 | exact z8s | exact zc2 | exact z6g | exact z6h | exact z6i | exact z4w | exact z6j | exact z8t | exact z4x | exact z6k | exact z8u) ?_; clear hS; intro gt W hS; refine Stop.go ?_) | (first | (refine Sep.wload1b hS (by rfl) rfl rfl (zn rfl) (by repeat (first | with_reducible exact At.z | assumption | apply At.s)) rfl ?_) | (refine Sep.wloadNb hS (by rfl) rfl rfl (by repeat (first | with_reducible exact At.z | assumption | apply At.s)) (zw rfl) ?_) | (refine Sep.wload1z hS (by rfl) rfl rfl (zn rfl) (by repeat (first | with_reducible exact At.z | assumption | apply At.s)) rfl ?_) | (refine Sep.wload1c hS (by rfl) rfl rfl (zn rfl) (by repeat (first | with_reducible exact At.z | assumption | apply At.s)) rfl ?_) | (refine Sep.wloadNz hS (by rfl) rfl rfl (by repeat (first | with_reducible exact At.z | assumption | apply At.s)) (zw rfl) ?_) | (refine Sep.walloc hS (by rfl) rfl (by first | exact zc0 | exact z4v | exact zc1 | exact z8s | exact zc2 | exact z6g | exact z6h | exact z6i | exact z4w | exact z6j | exact z8t | exact z4x | exact z6k | exact z8u) ?_; clear hS; intro g W hS) | (refine Sep.wbox hS (by rfl) rfl rfl ?_; clear hS; intro g W hS) | (refine Sep.wstoreNb hS (by rfl) rfl rfl rfl (zw rfl) (by simp [z99, Value.oneCell']) (by repeat (first | with_reducible exact At.z | assumption | apply At.s)) (by rfl) (by repeat (first | with_reducible exact Put.z | apply Put.s)) ?_; clear hS; intro W hS))); refine Stop.mk ?_)
 go_wp2_with ((first | (refine Sep.wload1b hS (by rfl) rfl rfl (zn rfl) (by repeat (first | with_reducible exact At.z | assumption | apply At.s)) rfl ?_) | (refine Sep.wloadNb hS (by rfl) rfl rfl (by repeat (first | with_reducible exact At.z | assumption | apply At.s)) (zw rfl) ?_) | (refine Sep.wload1z hS (by rfl) rfl rfl (zn rfl) (by repeat (first | with_reducible exact At.z | assumption | apply At.s)) rfl ?_) | (refine Sep.wload1c hS (by rfl) rfl rfl (zn rfl) (by repeat (first | with_reducible exact At.z | assumption | apply At.s)) rfl ?_) | (refine Sep.wloadNz hS (by rfl) rfl rfl (by repeat (first | with_reducible exact At.z | assumption | apply At.s)) (zw rfl) ?_) | (refine Sep.walloc hS (by rfl) rfl (by first | exact zc0 | exact z4v | exact zc1 | exact z8s | exact zc2 | exact z6g | exact z6h | exact z6i | exact z4w | exact z6j | exact z8t | exact z4x | exact z6k | exact z8u) ?_; clear hS; intro g W hS) | (refine Sep.wbox hS (by rfl) rfl rfl ?_; clear hS; intro g W hS) | (refine Sep.wstoreNb hS (by rfl) rfl rfl rfl (zw rfl) (by simp [z99, Value.oneCell']) (by repeat (first | with_reducible exact At.z | assumption | apply At.s)) (by rfl) (by repeat (first | with_reducible exact Put.z | apply Put.s)) ?_; clear hS; intro W hS)))
 refine (hS.old (zcb t [_, _, _, _, _] _ _ (hS.ltsRep (At.s (At.s ht))) (fun b hb => hb))).mono ?_; clear hS; rintro e W ⟨rfl, hS⟩
 rcases Classical.em (zp t = 0) with h0 | h0
 ·rw [h0]
  have HR : Hid (R = (z1l t, 0)) := Lib.hid (by rw [HP.out, if_neg (fun h => h h0)])
  have H0 := Lib.hid h0
  have hlen : n ≤ 4 := by have := (z2k h0).len; have := L1.out; omega
  clear h0 HP
  have b0 := hS.boxCell (g := gt) At.z 0 _ rfl
  have b1 := hS.boxCell (g := gt) At.z 1 _ rfl
  have b2 := hS.boxCell (g := gt) At.z 2 _ rfl
  have b3 := hS.boxCell (g := gt) At.z 3 _ rfl
  have b4 := hS.boxCell (g := gt) At.z 4 _ rfl
  have gl : gt < W.heap.size := (Array.getElem?_eq_some_iff.1 (hS.getBox (g := gt) At.z).2).1
  have hΔ : FactsW W (Lt W.heap.size) [rds t.txs A n c shTx] := .rds (hS.ltsRds (by repeat (first | with_reducible exact At.z | assumption | apply At.s))) .nil
  have hG1 : Glob W := hG.on hS.below
  obtain ⟨bp, bh, bw, bn, txs⟩ := t
  simp only at *
  rename World => Wb
  have hSo := hS
  clear hS
  (go_wp2_with (first | (refine wsb (by rfl) rfl z_sb hΔ ?_; intro W1 hS; refine Stop.go ?_)); refine Stop.mk ?_)
  have l1 := z4k bp i1
  have l2 := z4k bh i2
  have l3 := z4k bw i3
  have l4 := z4k bn i4
  go_wp2_with fail
  (refine Sep.regionT hS [20] (by kernel_rfl) ?_; clear hS; intro W hS)
  (refine z16 0 rfl rfl (by (first | exact Yl.move rfl | exact Yl.assign rfl | exact Yl.load1b rfl rfl (zn rfl) (by repeat (first | with_reducible exact At.z | assumption | apply At.s)) rfl | exact Yl.loadNb rfl rfl (by repeat (first | with_reducible exact At.z | assumption | apply At.s)) (zw rfl) | exact Yl.load1z rfl rfl (zn rfl) (by repeat (first | with_reducible exact At.z | assumption | apply At.s)) rfl | exact Yl.load1c rfl rfl (zn rfl) (by repeat (first | with_reducible exact At.z | assumption | apply At.s)) rfl | exact Yl.loadNz rfl rfl (by repeat (first | with_reducible exact At.z | assumption | apply At.s)) (zw rfl) | (apply Yl.pure; intro W; go_simp; with_reducible rfl))) (hS.sub (by repeat (first | with_reducible exact Sub.refl | with_reducible exact Sub.nil | refine Sub.take (by repeat (first | with_reducible exact Del.z | apply Del.s)) ?_ | apply Sub.skip))) (by kernel_rfl) (fun _ _ _ h => h) ?_; simp only [Act.put, List.setIfInBounds_toArray, List.set_cons_zero, List.set_cons_succ])
  (refine z16 1 rfl rfl (Yl.base rfl rfl (zn rfl) gl b0) (hS.sub (by repeat (first | with_reducible exact Sub.refl | with_reducible exact Sub.nil | refine Sub.take (by repeat (first | with_reducible exact Del.z | apply Del.s)) ?_ | apply Sub.skip))) (by kernel_rfl) (fun _ _ _ h => h) ?_; simp only [Act.put, List.setIfInBounds_toArray, List.set_cons_zero, List.set_cons_succ])
  (refine z16 5 rfl rfl (by (first | exact Yl.move rfl | exact Yl.assign rfl | exact Yl.load1b rfl rfl (zn rfl) (by repeat (first | with_reducible exact At.z | assumption | apply At.s)) rfl | exact Yl.loadNb rfl rfl (by repeat (first | with_reducible exact At.z | assumption | apply At.s)) (zw rfl) | exact Yl.load1z rfl rfl (zn rfl) (by repeat (first | with_reducible exact At.z | assumption | apply At.s)) rfl | exact Yl.load1c rfl rfl (zn rfl) (by repeat (first | with_reducible exact At.z | assumption | apply At.s)) rfl | exact Yl.loadNz rfl rfl (by repeat (first | with_reducible exact At.z | assumption | apply At.s)) (zw rfl) | (apply Yl.pure; intro W; go_simp; with_reducible rfl))) (hS.sub (by repeat (first | with_reducible exact Sub.refl | with_reducible exact Sub.nil | refine Sub.take (by repeat (first | with_reducible exact Del.z | apply Del.s)) ?_ | apply Sub.skip))) (by kernel_rfl) (fun _ _ _ h => h) ?_; simp only [Act.put, List.setIfInBounds_toArray, List.set_cons_zero, List.set_cons_succ])
  (refine z16 6 rfl rfl (Yl.base rfl rfl (zn rfl) gl b1) (hS.sub (by repeat (first | with_reducible exact Sub.refl | with_reducible exact Sub.nil | refine Sub.take (by repeat (first | with_reducible exact Del.z | apply Del.s)) ?_ | apply Sub.skip))) (by kernel_rfl) (fun _ _ _ h => h) ?_; simp only [Act.put, List.setIfInBounds_toArray, List.set_cons_zero, List.set_cons_succ])
  (refine z16 10 rfl rfl (by (first | exact Yl.move rfl | exact Yl.assign rfl | exact Yl.load1b rfl rfl (zn rfl) (by repeat (first | with_reducible exact At.z | assumption | apply At.s)) rfl | exact Yl.loadNb rfl rfl (by repeat (first | with_reducible exact At.z | assumption | apply At.s)) (zw rfl) | exact Yl.load1z rfl rfl (zn rfl) (by repeat (first | with_reducible exact At.z | assumption | apply At.s)) rfl | exact Yl.load1c rfl rfl (zn rfl) (by repeat (first | with_reducible exact At.z | assumption | apply At.s)) rfl | exact Yl.loadNz rfl rfl (by repeat (first | with_reducible exact At.z | assumption | apply At.s)) (zw rfl) | (apply Yl.pure; intro W; go_simp; with_reducible rfl))) (hS.sub (by repeat (first | with_reducible exact Sub.refl | with_reducible exact Sub.nil | refine Sub.take (by repeat (first | with_reducible exact Del.z | apply Del.s)) ?_ | apply Sub.skip))) (by kernel_rfl) (fun _ _ _ h => h) ?_; simp only [Act.put, List.setIfInBounds_toArray, List.set_cons_zero, List.set_cons_succ])
  (refine z16 11 rfl rfl (Yl.base rfl rfl (zn rfl) gl b2) (hS.sub (by repeat (first | with_reducible exact Sub.refl | with_reducible exact Sub.nil | refine Sub.take (by repeat (first | with_reducible exact Del.z | apply Del.s)) ?_ | apply Sub.skip))) (by kernel_rfl) (fun _ _ _ h => h) ?_; simp only [Act.put, List.setIfInBounds_toArray, List.set_cons_zero, List.set_cons_succ])
  (refine z16 15 rfl rfl (by (first | exact Yl.move rfl | exact Yl.assign rfl | exact Yl.load1b rfl rfl (zn rfl) (by repeat (first | with_reducible exact At.z | assumption | apply At.s)) rfl | exact Yl.loadNb rfl rfl (by repeat (first | with_reducible exact At.z | assumption | apply At.s)) (zw rfl) | exact Yl.load1z rfl rfl (zn rfl) (by repeat (first | with_reducible exact At.z | assumption | apply At.s)) rfl | exact Yl.load1c rfl rfl (zn rfl) (by repeat (first | with_reducible exact At.z | assumption | apply At.s)) rfl | exact Yl.loadNz rfl rfl (by repeat (first | with_reducible exact At.z | assumption | apply At.s)) (zw rfl) | (apply Yl.pure; intro W; go_simp; with_reducible rfl))) (hS.sub (by repeat (first | with_reducible exact Sub.refl | with_reducible exact Sub.nil | refine Sub.take (by repeat (first | with_reducible exact Del.z | apply Del.s)) ?_ | apply Sub.skip))) (by kernel_rfl) (fun _ _ _ h => h) ?_; simp only [Act.put, List.setIfInBounds_toArray, List.set_cons_zero, List.set_cons_succ])
  (refine z16 16 rfl rfl (Yl.base rfl rfl (zn rfl) gl b3) (hS.sub (by repeat (first | with_reducible exact Sub.refl | with_reducible exact Sub.nil | refine Sub.take (by repeat (first | with_reducible exact Del.z | apply Del.s)) ?_ | apply Sub.skip))) (by kernel_rfl) (fun _ _ _ h => h) ?_; simp only [Act.put, List.setIfInBounds_toArray, List.set_cons_zero, List.set_cons_succ])
  refine zfr 2 (by kernel_rfl) rfl ?_
  go_wp2_with fail
  refine (hS.old (z94 bp i1 (hG1.on hS.below))).mono ?_; clear hS; rintro e W ⟨rfl, hS⟩
  go_wp2_with fail
  (refine ⟨fun _ => hS.sub (by repeat (first | with_reducible exact Sub.refl | with_reducible exact Sub.nil | refine Sub.take (by repeat (first | with_reducible exact Del.z | apply Del.s)) ?_ | apply Sub.skip)), ?_⟩; try simp only [Act.put, List.setIfInBounds_toArray, List.set_cons_zero, List.set_cons_succ])
  (refine z16 3 rfl rfl (Yl.cat rfl rfl rfl (by simp only [List.length_append, List.length_cons, List.length_nil]; omega)) (hS.sub (by repeat (first | with_reducible exact Sub.refl | with_reducible exact Sub.nil | refine Sub.take (by repeat (first | with_reducible exact Del.z | apply Del.s)) ?_ | apply Sub.skip))) (by kernel_rfl) (fun _ _ _ h => h) ?_; simp only [Act.put, List.setIfInBounds_toArray, List.set_cons_zero, List.set_cons_succ])
  (refine z16 4 rfl rfl (Yl.cat rfl rfl rfl (by simp only [List.length_append, List.length_cons, List.length_nil]; omega)) (hS.sub (by repeat (first | with_reducible exact Sub.refl | with_reducible exact Sub.nil | refine Sub.take (by repeat (first | with_reducible exact Del.z | apply Del.s)) ?_ | apply Sub.skip))) (by kernel_rfl) (fun _ _ _ h => h) ?_; simp only [Act.put, List.setIfInBounds_toArray, List.set_cons_zero, List.set_cons_succ])
  refine zfr 7 (by kernel_rfl) rfl ?_
  go_wp2_with fail
  refine (hS.old (z94 bh i2 (hG1.on hS.below))).mono ?_; clear hS; rintro e W ⟨rfl, hS⟩
  go_wp2_with fail
  (refine ⟨fun _ => hS.sub (by repeat (first | with_reducible exact Sub.refl | with_reducible exact Sub.nil | refine Sub.take (by repeat (first | with_reducible exact Del.z | apply Del.s)) ?_ | apply Sub.skip)), ?_⟩; try simp only [Act.put, List.setIfInBounds_toArray, List.set_cons_zero, List.set_cons_succ])
  (refine z16 8 rfl rfl (Yl.cat rfl rfl rfl (by simp only [List.length_append, List.length_cons, List.length_nil]; omega)) (hS.sub (by repeat (first | with_reducible exact Sub.refl | with_reducible exact Sub.nil | refine Sub.take (by repeat (first | with_reducible exact Del.z | apply Del.s)) ?_ | apply Sub.skip))) (by kernel_rfl) (fun _ _ _ h => h) ?_; simp only [Act.put, List.setIfInBounds_toArray, List.set_cons_zero, List.set_cons_succ])
  (refine z16 9 rfl rfl (Yl.cat rfl rfl rfl (by simp only [List.length_append, List.length_cons, List.length_nil]; omega)) (hS.sub (by repeat (first | with_reducible exact Sub.refl | with_reducible exact Sub.nil | refine Sub.take (by repeat (first | with_reducible exact Del.z | apply Del.s)) ?_ | apply Sub.skip))) (by kernel_rfl) (fun _ _ _ h => h) ?_; simp only [Act.put, List.setIfInBounds_toArray, List.set_cons_zero, List.set_cons_succ])
  refine zfr 12 (by kernel_rfl) rfl ?_
  go_wp2_with fail
  refine (hS.old (z94 bw i3 (hG1.on hS.below))).mono ?_; clear hS; rintro e W ⟨rfl, hS⟩
  go_wp2_with fail
  (refine ⟨fun _ => hS.sub (by repeat (first | with_reducible exact Sub.refl | with_reducible exact Sub.nil | refine Sub.take (by repeat (first | with_reducible exact Del.z | apply Del.s)) ?_ | apply Sub.skip)), ?_⟩; try simp only [Act.put, List.setIfInBounds_toArray, List.set_cons_zero, List.set_cons_succ])
  (refine z16 13 rfl rfl (Yl.cat rfl rfl rfl (by simp only [List.length_append, List.length_cons, List.length_nil]; omega)) (hS.sub (by repeat (first | with_reducible exact Sub.refl | with_reducible exact Sub.nil | refine Sub.take (by repeat (first | with_reducible exact Del.z | apply Del.s)) ?_ | apply Sub.skip))) (by kernel_rfl) (fun _ _ _ h => h) ?_; simp only [Act.put, List.setIfInBounds_toArray, List.set_cons_zero, List.set_cons_succ])
  (refine z16 14 rfl rfl (Yl.cat rfl rfl rfl (by simp only [List.length_append, List.length_cons, List.length_nil]; omega)) (hS.sub (by repeat (first | with_reducible exact Sub.refl | with_reducible exact Sub.nil | refine Sub.take (by repeat (first | with_reducible exact Del.z | apply Del.s)) ?_ | apply Sub.skip))) (by kernel_rfl) (fun _ _ _ h => h) ?_; simp only [Act.put, List.setIfInBounds_toArray, List.set_cons_zero, List.set_cons_succ])
  refine zfr 17 (by kernel_rfl) rfl ?_
  go_wp2_with fail
  refine (hS.old (z94 bn i4 (hG1.on hS.below))).mono ?_; clear hS; rintro e W ⟨rfl, hS⟩
  go_wp2_with fail
  (refine ⟨fun _ => hS.sub (by repeat (first | with_reducible exact Sub.refl | with_reducible exact Sub.nil | refine Sub.take (by repeat (first | with_reducible exact Del.z | apply Del.s)) ?_ | apply Sub.skip)), ?_⟩; try simp only [Act.put, List.setIfInBounds_toArray, List.set_cons_zero, List.set_cons_succ])
  (refine z16 18 rfl rfl (Yl.cat rfl rfl rfl (by simp only [List.length_append, List.length_cons, List.length_nil]; omega)) (hS.sub (by repeat (first | with_reducible exact Sub.refl | with_reducible exact Sub.nil | refine Sub.take (by repeat (first | with_reducible exact Del.z | apply Del.s)) ?_ | apply Sub.skip))) (by kernel_rfl) (fun _ _ _ h => h) ?_; simp only [Act.put, List.setIfInBounds_toArray, List.set_cons_zero, List.set_cons_succ])
  (refine z16 19 rfl rfl (Yl.cat rfl rfl rfl (by simp only [List.length_append, List.length_cons, List.length_nil]; omega)) (hS.sub (by repeat (first | with_reducible exact Sub.refl | with_reducible exact Sub.nil | refine Sub.take (by repeat (first | with_reducible exact Del.z | apply Del.s)) ?_ | apply Sub.skip))) (by kernel_rfl) (fun _ _ _ h => h) ?_; simp only [Act.put, List.setIfInBounds_toArray, List.set_cons_zero, List.set_cons_succ])
  refine zfr 20 (by kernel_rfl) rfl ?_
  go_wp2_with fail
  refine (hS.write (l := []) (by repeat (first | with_reducible exact At.z | assumption | apply At.s)) hΔ _ (by simp [ByteArray.size]; omega)).mono ?_
  clear hS
  rintro e W2 ⟨⟨v, rfl⟩, hS⟩
  go_wp2_with fail
  (refine ⟨fun h => z00a (by kernel_rfl) h, ?_⟩; try simp only [Act.put, List.setIfInBounds_toArray, List.set_cons_zero, List.set_cons_succ])
  refine zh3 (by kernel_rfl) ?_
  have e0 : [] ++ 98 :: 108 :: 111 :: 99 :: 107 :: 32 :: (itoa bp ++ 32 :: (itoa bh ++ 32 :: (itoa bw ++ 32 :: (itoa bn ++ [10])))) = z4i ⟨bp, bh, bw, bn, txs⟩ := by simp [z4i]
  have lh : (z4i ⟨bp, bh, bw, bn, txs⟩).length ≤ 100 := by simp [z4i]; omega
  have d4 := (hS.below.cell (p := ⟨gt, 4, none⟩) gl).trans b4
  go_wp2_with fail
  clear d4
  rw [e0] at hS
  clear e0
  go_loopw [7, 8, 9, 39] (fun _ _ _ i wr => ∃ k : Nat, k ≤ n ∧ i = .int .i64 k ∧ ∃ l : List UInt8, l.length ≤ 100 + 2500 * k ∧ Hid (l = z4i ⟨bp, bh, bw, bn, txs⟩ ++ (txs.take k).flatMap fun t => (z0m t).1) ∧ Sep Wb (Lt Wb.heap.size) (sb Wb.heap.size l :: rds txs A n c shTx :: []) wr) (fun _ _ _ i _ => n - (intOf i).toNat)
  case atStart => exact ⟨0, by omega, rfl, z4i ⟨bp, bh, bw, bn, txs⟩, by omega, Lib.hid (by simp), hS.sub (by repeat (first | with_reducible exact Sub.refl | with_reducible exact Sub.nil | refine Sub.take (by repeat (first | with_reducible exact Del.z | apply Del.s)) ?_ | apply Sub.skip))⟩
  case round =>
   clear hS
   obtain ⟨k, hk, rfl, l, hl, HL, hS⟩ := hrel
   rcases Classical.em (k < n) with hlt | hlt
   ·(have hO := hS.elemTxR (xs := txs) (by repeat (first | with_reducible exact At.z | assumption | apply At.s)) hlt; clear hS; obtain ⟨b, off, x, A1, n1, c1, A2, n2, c2, rfl, hx, hS⟩ := hO)
    have HX := Lib.hid hx
    have k1 : (0 : Int) ≤ (k : Int) := by omega
    have k2 : (k : Int) < (n : Int) := by omega
    clear hx
    (go_wp2_with (first | (refine Sep.wloadNz hS (by rfl) rfl rfl (by repeat (first | with_reducible exact At.z | assumption | apply At.s)) (zw rfl) ?_) | (refine Sep.walloc hS (by rfl) rfl (by first | exact zc0 | exact z4v | exact zc1 | exact z8s | exact zc2 | exact z6g | exact z6h | exact z6i | exact z4w | exact z6j | exact z8t | exact z4x | exact z6k | exact z8u) ?_; clear hS; intro g W hS) | (refine Sep.wstoreNb hS (by rfl) rfl rfl rfl (zw rfl) (by simp [z99, Value.oneCell']) (by repeat (first | with_reducible exact At.z | assumption | apply At.s)) (by rfl) (by repeat (first | with_reducible exact Put.z | apply Put.s)) ?_; clear hS; intro W hS; refine Stop.go ?_)); refine Stop.mk ?_)
    go_wp2_with ((first | (refine Sep.wload1b hS (by rfl) rfl rfl (zn rfl) (by repeat (first | with_reducible exact At.z | assumption | apply At.s)) rfl ?_) | (refine Sep.wloadNb hS (by rfl) rfl rfl (by repeat (first | with_reducible exact At.z | assumption | apply At.s)) (zw rfl) ?_) | (refine Sep.wload1z hS (by rfl) rfl rfl (zn rfl) (by repeat (first | with_reducible exact At.z | assumption | apply At.s)) rfl ?_) | (refine Sep.wload1c hS (by rfl) rfl rfl (zn rfl) (by repeat (first | with_reducible exact At.z | assumption | apply At.s)) rfl ?_) | (refine Sep.wloadNz hS (by rfl) rfl rfl (by repeat (first | with_reducible exact At.z | assumption | apply At.s)) (zw rfl) ?_) | (refine Sep.walloc hS (by rfl) rfl (by first | exact zc0 | exact z4v | exact zc1 | exact z8s | exact zc2 | exact z6g | exact z6h | exact z6i | exact z4w | exact z6j | exact z8t | exact z4x | exact z6k | exact z8u) ?_; clear hS; intro g W hS) | (refine Sep.wbox hS (by rfl) rfl rfl ?_; clear hS; intro g W hS) | (refine Sep.wstoreNb hS (by rfl) rfl rfl rfl (zw rfl) (by simp [z99, Value.oneCell']) (by repeat (first | with_reducible exact At.z | assumption | apply At.s)) (by rfl) (by repeat (first | with_reducible exact Put.z | apply Put.s)) ?_; clear hS; intro W hS)))
    refine (zni x [_, _, _] hS (by repeat (first | with_reducible exact At.z | assumption | apply At.s)) hG1).mono ?_; clear hS; rintro e W ⟨rfl, hS⟩
    have lp := zi6 x
    go_wp2_with fail
    refine (hS.write (l := l) (by repeat (first | with_reducible exact At.z | assumption | apply At.s)) hΔ _ (by simp [ByteArray.size]; omega)).mono ?_
    clear hS
    rintro e W2 ⟨⟨v, rfl⟩, hS⟩
    go_wp2_with fail
    go_roundw
    case measure => simp [intOf]; omega
    case rel => exact ⟨k + 1, by omega, by go_num, l ++ (z0m x).1, by simp; omega, Lib.hid (by rw [z2p HX.out, HL.out]; simp), hS.sub (by repeat (first | with_reducible exact Sub.refl | with_reducible exact Sub.nil | refine Sub.take (by repeat (first | with_reducible exact Del.z | apply Del.s)) ?_ | apply Sub.skip))⟩
   ·obtain rfl : k = n := by omega
    go_wp2_with fail
    refine (hS.text (by repeat (first | with_reducible exact At.z | assumption | apply At.s))).mono ?_
    clear hS
    rintro e W3 ⟨rfl, hB⟩
    have hS := hSo.belows hB
    go_wp2_with fail
    have em : l = z1l ⟨bp, bh, bw, bn, txs⟩ := by
     rw [HL.out, List.take_of_length_le (by have := L1.out; omega)]
     unfold z1l
     congr 1
     have key : ∀ t ∈ txs, (z0m t).1 = z0e t := fun t ht => by rw [z00o ((z2k H0.out).each t ht)]
     simp only [List.flatMap_def]
     rw [List.map_congr_left key]
    rw [em]
    refine bodyPost_ret (zdw rfl (by first | exact Got.tmp rfl | exact Got.boxN hS rfl (by repeat (first | with_reducible exact At.z | assumption | apply At.s)) (zw rfl) | exact Got.box1 hS rfl (by repeat (first | with_reducible exact At.z | assumption | apply At.s)) (zn rfl)) (by first | exact Got.tmp rfl | exact Got.boxN hS rfl (by repeat (first | with_reducible exact At.z | assumption | apply At.s)) (zw rfl) | exact Got.box1 hS rfl (by repeat (first | with_reducible exact At.z | assumption | apply At.s)) (zn rfl))) rfl ?_
    exact ⟨by rw [HR.out]; rfl, hS.sub (by repeat (first | with_reducible exact Sub.refl | with_reducible exact Sub.nil | refine Sub.take (by repeat (first | with_reducible exact Del.z | apply Del.s)) ?_ | apply Sub.skip))⟩
 ·have q : ((zp t) != 0) = true := by simp [h0]
  have HR : Hid (R = ([], zp t)) := Lib.hid (by rw [HP.out, if_pos h0])
  clear h0 HP
  go_wp2_with fail
  refine bodyPost_ret (zdw rfl (by first | exact Got.tmp rfl | exact Got.boxN hS rfl (by repeat (first | with_reducible exact At.z | assumption | apply At.s)) (zw rfl) | exact Got.box1 hS rfl (by repeat (first | with_reducible exact At.z | assumption | apply At.s)) (zn rfl)) (by first | exact Got.tmp rfl | exact Got.boxN hS rfl (by repeat (first | with_reducible exact At.z | assumption | apply At.s)) (zw rfl) | exact Got.box1 hS rfl (by repeat (first | with_reducible exact At.z | assumption | apply At.s)) (zn rfl))) rfl ?_
  exact ⟨by rw [HR.out]; rfl, hS.sub (by repeat (first | with_reducible exact Sub.refl | with_reducible exact Sub.nil | refine Sub.take (by repeat (first | with_reducible exact Del.z | apply Del.s)) ?_ | apply Sub.skip))⟩
noncomputable def z1b : zd := spD (fun _ : Block => True) fun t => z06 t
theorem zl1 (t : Block) : z1b (z5d t) = some [.s (z06 t).1, I (z06 t).2] := zm (f := fun t : Block => z06 t) t trivial
theorem zxz (t : Block) : I64 (z06 t).2 := by
 unfold z06
 split
 ·exact (z049 t).i64
 ·show I64 0
  exact ⟨by decide, by decide⟩
theorem zdx : Meets Tryz.prog z1b 31 ⟨[.agg 5], [(false, [.scal]), (false, [.scal])], true⟩ :=
 z2f rfl (z22 (fn := Tryz.f31) (by kernel_rfl) (by kernel_rfl) (by kernel_rfl)) fun t _ W F us hF h => by
  obtain ⟨cs, rfl, hr⟩ := zdc h
  have hS : Sep W F [rep t cs shBlock] W := (Sep.start W F hF.1).addRep (S := shBlock) (shBlock.more (fun b hb => ⟨.inl hb, by simp⟩) (she_block.of hr))
  refine (z01v t cs hS At.z hF.2).mono ?_
  rintro e w' ⟨rfl, hS'⟩
  exact ⟨_, rfl, hS'.below, z7h rfl rfl (.s _ (by have := zww t; omega)) (.i _ _ (wrap_i64 (zxz t)))⟩
end
section
open Go.RowKit Go.Shelf
open Go.Lib (itoa atoiAll atoiSat)
set_option maxRecDepth 100000
theorem z83 (x : List UInt8) : (⟨x.toArray⟩ : ByteArray).size = x.length := by
 show x.toArray.size = x.length
 simp
section
variable {P : Program} {W : World} {F : Nat → Prop}
theorem zu1 (t : Nat) (L : List (List UInt8)) (hx : ∀ x ∈ L, x.length ≤ 9223372036854775807) (hL : L.length ≤ 9223372036854775807) :
  Rep (W.alloc (.cells (L.map fun x => Value.string ⟨x.toArray⟩).toArray t)) (fun b => F b ∨ b = W.heap.size) (.l 1 (L.map z24)) (.slice (some ⟨W.heap.size, 0, none⟩) L.length L.length) := by
 refine .l 1 _ _ _ _ W.heap.size 0 (fun i _ => .string ⟨((L[i]?).getD []).toArray⟩) (by rw [List.length_map]) (by rw [List.length_map]; exact Nat.le_refl _) hL (fun x hx => ?_) (fun _ => ⟨rfl, .inr rfl⟩) (fun i j x d hi hj => ?_) (fun i j x d hi hj => ?_)
 ·obtain ⟨y, _, rfl⟩ := List.mem_map.1 hx; rfl
 ·rw [List.getElem?_map] at hi
  obtain ⟨y, hy, rfl⟩ := Option.map_eq_some_iff.1 hi
  match j, hj with
  | 0, hj =>
   have hc : (W.alloc (.cells (L.map fun x => Value.string ⟨x.toArray⟩).toArray t)).heap[W.heap.size]? = some (.cells (L.map fun x => Value.string ⟨x.toArray⟩).toArray t) := heap_alloc_new W _
   rw [hy]
   simp only [World.cell?, hc, Nat.zero_add, Nat.mul_one, Nat.add_zero, List.getElem?_toArray, List.getElem?_map, hy, Option.map_some, Option.getD_some]
   rfl
 ·rw [List.getElem?_map] at hi
  obtain ⟨y, hy, rfl⟩ := Option.map_eq_some_iff.1 hi
  match j, hj with
  | 0, hj =>
   simp only [z24, List.getElem?_cons_zero, Option.some.injEq] at hj
   subst hj
   rw [hy]
   exact .s y (hx y (List.mem_of_getElem? hy))
theorem z07l {s : List PK} {l : Bool} {t : Nat} {L : List (List UInt8)} (hx : ∀ x ∈ L, x.length ≤ 9223372036854775807) (hL : L.length ≤ 9223372036854775807) :
  ∃ us F', ResR W F (W.alloc (.cells (L.map fun x => Value.string ⟨x.toArray⟩).toArray t)) ⟨s, [(false, [.pure])], l⟩ (Enc.e L) (.slice (some ⟨W.heap.size, 0, none⟩) L.length L.length) us F' := by
 refine ⟨[_], fun b => F b ∨ b = W.heap.size, zdf ⟨rfl, rfl⟩ ?_ ?_ rfl ⟨zu1 t L hx hL, trivial⟩ fun b hb => ?_⟩
 ·intro c hc
  simp only [zk, List.flatMap_cons, List.flatMap_nil, List.append_nil, List.mem_cons, List.not_mem_nil, or_false] at hc
  exact .inr hc
 ·intro j d hj hd
  match j, hj with
  | 0, hj => cases hj
  | j + 1, hj => simp [zk] at hj
 ·rcases hb with hb | rfl
  ·exact .inl hb
  ·exact .inr ⟨Nat.le_refl _, by simp⟩
end
theorem z7i (c : UInt8) : ∀ (s : List UInt8), (zy c s).length ≤ s.length + 1 ∧ ∀ x ∈ zy c s, x.length ≤ s.length
 | [] => by simp [zy]
 | b :: s => by
  obtain ⟨h1, h2⟩ := z7i c s
  unfold zy
  split
  ·refine ⟨by simp only [List.length_cons]; omega, fun x hx => ?_⟩
   rcases List.mem_cons.1 hx with rfl | hx
   ·simp
   ·have := h2 x hx; simp only [List.length_cons]; omega
  ·cases hc : zy c s with
   | nil => exact ⟨by simp, fun x hx => by simp at hx; subst hx; simp⟩
   | cons y ys =>
    rw [hc] at h1 h2
    refine ⟨by simp only [List.length_cons] at h1 ⊢; omega, fun x hx => ?_⟩
    rcases List.mem_cons.1 hx with rfl | hx
    ·have := h2 y (List.mem_cons_self ..); simp only [List.length_cons]; omega
    ·have := h2 x (List.mem_cons_of_mem _ hx); simp only [List.length_cons]; omega
theorem zbk {W : World} (h : GlobM W) {g : Nat} (hg : (Tryz.prog).globalNamed "internal/bytealg.MaxLen" = some g) : ∃ m, W.cell? ⟨g, 0, none⟩ = some (.int .i64 m) := by
 obtain ⟨g', m, h1, h2⟩ := h
 rw [hg] at h1
 cases h1
 exact ⟨m, h2⟩
noncomputable def z1r : zd := spD (fun x : List UInt8 × List UInt8 => x.1.length ≤ 1000000000 ∧ ∃ c, x.2 = [c]) fun x => zy (x.2.headD 0) x.1
theorem z62 (s : List UInt8) (c : UInt8) (h : s.length ≤ 1000000000) : z1r [.s s, .s [c]] = some [.l 1 ((zy c s).map z24)] := zm (p := fun x : List UInt8 × List UInt8 => x.1.length ≤ 1000000000 ∧ ∃ c, x.2 = [c]) (f := fun x : List UInt8 × List UInt8 => zy (x.2.headD 0) x.1) (s, [c]) ⟨h, c, rfl⟩
theorem zdy : Meets Tryz.prog z1r 81 ⟨[.one, .one], [(false, [.pure])], false⟩ :=
 z2f rfl (z22 (fn := Tryz.f81) (by kernel_rfl) (by kernel_rfl) (by kernel_rfl)) fun ⟨s, q⟩ ⟨hs, c, hq⟩ W F us hF h => by
  obtain ⟨v, us, rfl, h1, h⟩ := z0h h
  obtain ⟨v2, us, rfl, h2, h⟩ := z0h h
  obtain rfl := z1m h
  obtain ⟨rfl, -⟩ := z2d h1
  obtain ⟨rfl, -⟩ := z2d h2
  simp only at hs hq
  subst hq
  obtain ⟨m, hm⟩ := zbk hF.2.2.2.1 (g := Tryz.lays146_ren.g 1) (by kernel_rfl)
  have h1s : 1 ≤ (⟨[c].toArray⟩ : ByteArray).size := by rw [z83]; exact Nat.le_refl _
  have hall := Go.Lib.splitB_all ⟨[c].toArray⟩ h1s 0 _ ⟨s.toArray⟩ rfl
  have hd := Go.Lib.splitB_data ⟨[c].toArray⟩ 0 (Go.Lib.countB ⟨s.toArray⟩ ⟨[c].toArray⟩) ⟨s.toArray⟩
  have hcut : Go.Lib.splitK [c] 0 (Go.Lib.countB ⟨s.toArray⟩ ⟨[c].toArray⟩) s = zy c s := z02k c s.length s (Nat.le_refl _)
  have hd : (Go.Lib.splitB ⟨[c].toArray⟩ 0 (Go.Lib.countB ⟨s.toArray⟩ ⟨[c].toArray⟩) ⟨s.toArray⟩).map (·.data.toList) = zy c s := hd.trans hcut
  refine (Any.strings_Split { Tryz.lays146 with } Tryz.lays146.i9 ⟨s.toArray⟩ ⟨[c].toArray⟩ m W (by rw [z83]; omega) hm h1s).mono ?_
  rintro e w' ⟨rfl, rfl⟩
  have hln : Go.Lib.countB ⟨s.toArray⟩ ⟨[c].toArray⟩ + 1 = (zy c s).length := by rw [← hall, ← hd, List.length_map]
  obtain ⟨hc1, hc2⟩ := z7i c s
  rw [Go.Lib.pieces_eq hd, hln]
  refine ⟨_, rfl, (Below.refl _ _).alloc (Nat.le_refl _) _, ?_⟩
  exact z07l (fun x hx => by have := hc2 x hx; omega) (by omega)
def z0k (s : List UInt8) : Int × GoErr := match atoiAll s with
 | .ok v => (v, ⟨false⟩)
 | .range => (atoiSat s, ⟨true⟩)
 | _ => (0, ⟨true⟩)
theorem z01w {s : List UInt8} {v : Int} (h : atoiAll s = .ok v) : I64 v := by
 unfold atoiAll at h
 split at h
 ·cases h
 ·simp only at h
  split at h
  ·cases h
  ·cases h
  ·split at h
   ·cases h
   ·split at h
    ·cases h
    ·rename_i h1 h2
     injection h with h
     subst h
     unfold I64
     split <;> rename_i h3 <;> simp only [h3, true_and, not_true_eq_false, false_and, not_false_eq_true] at h1 h2 <;> omega
noncomputable def z48 : zd := spD (fun s : List UInt8 => s.length ≤ 1000000000) fun s => z0k s
theorem zdz (s : List UInt8) (h : s.length ≤ 1000000000) : z48 [.s s] = some [I (z0k s).1, .e (z0k s).2.is] := zm (p := fun s : List UInt8 => s.length ≤ 1000000000) (f := fun s : List UInt8 => z0k s) s h
theorem zu2 : Meets Tryz.prog z48 125 ⟨[.one], [(false, [.scal]), (false, [.scal])], true⟩ :=
 z2f rfl (z22 (fn := Tryz.f125) (by kernel_rfl) (by kernel_rfl) (by kernel_rfl)) fun s hs W F us hF h => by
  obtain ⟨v, us, rfl, h1, h⟩ := z0h h
  obtain rfl := z1m h
  obtain ⟨rfl, -⟩ := z2d h1
  obtain ⟨⟨tp, p, hv⟩, tp', p', hv'⟩ := hF.2.2.1
  cases ha : atoiAll s with
  | ok x =>
   refine (Any.strconv_Atoi_ok Tryz.lays172 ⟨s.toArray⟩ (by rw [z83]; omega) x ha W).mono ?_
   rintro e w' ⟨rfl, hw⟩
   have e1 : Enc.e (z0k s) = [I x, .e false] := by unfold z0k; rw [ha]; rfl
   rw [e1]
   refine ⟨_, rfl, ?_, z7h rfl rfl (.i _ _ (wrap_i64 (z01w ha))) .e0⟩
   rcases hw with rfl | ⟨t, rfl⟩
   ·exact Below.refl _ _
   ·exact Go.Joins.below_bytesWorld _ _ _ _ (Nat.le_refl _)
  | range =>
   refine (Any.strconv_Atoi_range_var Tryz.lays172 ⟨s.toArray⟩ (by rw [z83]; omega) ha tp' p' W hv').mono ?_
   rintro e w' ⟨N, rfl, -, -, hb⟩
   have e1 : Enc.e (z0k s) = [I (atoiSat s), .e true] := by unfold z0k; rw [ha]; rfl
   rw [e1]
   exact ⟨_, rfl, hb, z7h rfl rfl (.i _ _ (wrap_i64 (by unfold atoiSat; split <;> omega))) (.e1 _ _)⟩
  | _ =>
   refine (Any.strconv_Atoi_syntax_var Tryz.lays172 ⟨s.toArray⟩ (by rw [z83]; omega) ha tp p W hv).mono ?_
   rintro e w' ⟨N, rfl, -, -, hb⟩
   have e1 : Enc.e (z0k s) = [I 0, .e true] := by unfold z0k; rw [ha]; rfl
   rw [e1]
   exact ⟨_, rfl, hb, z7h rfl rfl (.i _ _ (wrap_i64 (by omega))) (.e1 _ _)⟩
end
section
open Go.RowKit Go.Shelf
open Go.Lib (itoa atoiAll atoiSat)
set_option maxRecDepth 100000
noncomputable def z4e : zd := spD (fun x : List UInt8 × List UInt8 => x.1.length ≤ 1000000000) fun x => Go.Lib.cut x.1 x.2
theorem zfs (s p : List UInt8) (h : s.length ≤ 1000000000) : z4e [.s s, .s p] = some [.s (Go.Lib.cut s p).1, .s (Go.Lib.cut s p).2.1, .b (Go.Lib.cut s p).2.2] := zm (p := fun x : List UInt8 × List UInt8 => x.1.length ≤ 1000000000) (f := fun x : List UInt8 × List UInt8 => Go.Lib.cut x.1 x.2) (s, p) h
theorem z0a5 (s p : List UInt8) : (Go.Lib.cut s p).1.length ≤ s.length ∧ (Go.Lib.cut s p).2.1.length ≤ s.length := by
 unfold Go.Lib.cut
 split
 ·simp only [List.length_take, List.length_drop]; omega
 ·simp
theorem zu3 : Meets Tryz.prog z4e 90 ⟨[.one, .one], [(false, [.scal]), (false, [.scal]), (false, [.scal])], true⟩ :=
 z2f rfl (z22 (fn := Tryz.f90) (by kernel_rfl) (by kernel_rfl) (by kernel_rfl)) fun ⟨s, p⟩ hs W F us hF h => by
  obtain ⟨v, us, rfl, h1, h⟩ := z0h h
  obtain ⟨v2, us, rfl, h2, h⟩ := z0h h
  obtain rfl := z1m h
  obtain ⟨rfl, -⟩ := z2d h1
  obtain ⟨rfl, -⟩ := z2d h2
  simp only at hs
  have hl := z0a5 s p
  obtain ⟨m, hm⟩ := zbk hF.2.2.2.1 (g := Tryz.lays145_ren.g 1) (by kernel_rfl)
  refine (Any.strings_Cut { Tryz.lays145 with } ⟨s.toArray⟩ ⟨p.toArray⟩ m W (by rw [z83]; omega) hm).mono ?_
  rintro e w' ⟨rfl, n, rfl⟩
  exact ⟨_, rfl, z8k (Below.refl _ _) n, z04e rfl rfl rfl (.s _ (by simp only at *; omega)) (.s _ (by simp only at *; omega)) (.b _)⟩
noncomputable def z49 : zd := spD (fun x : List UInt8 × List UInt8 => x.1.length ≤ 1000000000) fun x => Go.Lib.contains x.1 x.2
theorem zgo (s p : List UInt8) (h : s.length ≤ 1000000000) : z49 [.s s, .s p] = some [.b (Go.Lib.contains s p)] := zm (p := fun x : List UInt8 × List UInt8 => x.1.length ≤ 1000000000) (f := fun x : List UInt8 × List UInt8 => Go.Lib.contains x.1 x.2) (s, p) h
theorem zoy : Meets Tryz.prog z49 127 ⟨[.one, .one], [(false, [.scal])], true⟩ :=
 zj7 rfl (z22 (fn := Tryz.f127) (by kernel_rfl) (by kernel_rfl) (by kernel_rfl)) fun ⟨s, p⟩ hs W F us hF h => by
  obtain ⟨v, us, rfl, h1, h⟩ := z0h h
  obtain ⟨v2, us, rfl, h2, h⟩ := z0h h
  obtain rfl := z1m h
  obtain ⟨rfl, -⟩ := z2d h1
  obtain ⟨rfl, -⟩ := z2d h2
  simp only at hs
  obtain ⟨m, hm⟩ := zbk hF.2.2.2.1 (g := Tryz.lays144_ren.g 1) (by kernel_rfl)
  exact (Any.strings_Contains { Tryz.lays144 with } ⟨s.toArray⟩ ⟨p.toArray⟩ m W (by rw [z83]; omega) hm).mono fun e w' ⟨h1, h2⟩ => ⟨h1, h2 ▸ Below.refl _ _⟩
noncomputable def z6l : zd := spD (fun x : List UInt8 × List UInt8 => x.1.length ≤ 1000000000) fun x => Go.Lib.index x.1 x.2
theorem zl2 (s p : List UInt8) (h : s.length ≤ 1000000000) : z6l [.s s, .s p] = some [I (Go.Lib.index s p)] := zm (p := fun x : List UInt8 × List UInt8 => x.1.length ≤ 1000000000) (f := fun x : List UInt8 × List UInt8 => Go.Lib.index x.1 x.2) (s, p) h
theorem zu4 (p : List UInt8) : ∀ s : List UInt8, -1 ≤ Go.Lib.index s p ∧ Go.Lib.index s p ≤ s.length
 | [] => by unfold Go.Lib.index; split <;> simp
 | b :: s => by
  have := zu4 p s
  unfold Go.Lib.index
  simp only [List.length_cons]
  split
  ·omega
  ·split <;> omega
theorem z01x : Meets Tryz.prog z6l 92 ⟨[.one, .one], [(false, [.scal])], true⟩ :=
 zj8 rfl (z22 (fn := Tryz.f92) (by kernel_rfl) (by kernel_rfl) (by kernel_rfl)) fun ⟨s, p⟩ hs W F us hF h => by
  obtain ⟨v, us, rfl, h1, h⟩ := z0h h
  obtain ⟨v2, us, rfl, h2, h⟩ := z0h h
  obtain rfl := z1m h
  obtain ⟨rfl, -⟩ := z2d h1
  obtain ⟨rfl, -⟩ := z2d h2
  simp only at hs
  have hb := zu4 p s
  obtain ⟨m, hm⟩ := zbk hF.2.2.2.1 (g := Tryz.lays143_ren.g 1) (by kernel_rfl)
  exact ⟨by unfold I64; simp only; omega, (Any.strings_Index { Tryz.lays143 with } ⟨s.toArray⟩ ⟨p.toArray⟩ m W (by rw [z83]; omega) hm).mono fun e w' ⟨h1, h2⟩ => ⟨h1, h2 ▸ Below.refl _ _⟩⟩
noncomputable def z5m : zd := spD (fun _ : List UInt8 × List UInt8 => True) fun x => (Go.Lib.trimPrefix x.1 x.2, Go.Lib.hasPrefix x.1 x.2)
theorem zjd (s p : List UInt8) : z5m [.s s, .s p] = some [.s (Go.Lib.trimPrefix s p), .b (Go.Lib.hasPrefix s p)] := zm (f := fun x : List UInt8 × List UInt8 => (Go.Lib.trimPrefix x.1 x.2, Go.Lib.hasPrefix x.1 x.2)) (s, p) trivial
theorem zl3 (s p : List UInt8) : (Go.Lib.trimPrefix s p).length ≤ s.length := by
 unfold Go.Lib.trimPrefix
 split <;> simp
theorem zy0 : Meets Tryz.prog z5m 82 ⟨[.one, .one], [(false, [.scal]), (false, [.scal])], true⟩ :=
 z2f rfl (z22 (fn := Tryz.f82) (by kernel_rfl) (by kernel_rfl) (by kernel_rfl)) fun ⟨s, p⟩ _ W F us hF h => by
  obtain ⟨v, us, rfl, h1, h⟩ := z0h h
  obtain ⟨v2, us, rfl, h2, h⟩ := z0h h
  obtain rfl := z1m h
  obtain ⟨rfl, hs⟩ := z2d h1
  obtain ⟨rfl, -⟩ := z2d h2
  have hl := zl3 s p
  refine (Any.strings_CutPrefix Tryz.lays103 ⟨s.toArray⟩ ⟨p.toArray⟩ W).mono ?_
  rintro e w' ⟨rfl, rfl⟩
  exact ⟨_, rfl, Below.refl _ _, z7h rfl rfl (.s _ (by simp only at *; omega)) (.b _)⟩
noncomputable def z5n : zd := spD (fun _ : List UInt8 × List UInt8 => True) fun x => (Go.Lib.trimSuffix x.1 x.2, Go.Lib.hasSuffix x.1 x.2)
theorem zje (s p : List UInt8) : z5n [.s s, .s p] = some [.s (Go.Lib.trimSuffix s p), .b (Go.Lib.hasSuffix s p)] := zm (f := fun x : List UInt8 × List UInt8 => (Go.Lib.trimSuffix x.1 x.2, Go.Lib.hasSuffix x.1 x.2)) (s, p) trivial
theorem zl4 (s p : List UInt8) : (Go.Lib.trimSuffix s p).length ≤ s.length := by
 unfold Go.Lib.trimSuffix
 split <;> simp
theorem zy1 : Meets Tryz.prog z5n 80 ⟨[.one, .one], [(false, [.scal]), (false, [.scal])], true⟩ :=
 z2f rfl (z22 (fn := Tryz.f80) (by kernel_rfl) (by kernel_rfl) (by kernel_rfl)) fun ⟨s, p⟩ _ W F us hF h => by
  obtain ⟨v, us, rfl, h1, h⟩ := z0h h
  obtain ⟨v2, us, rfl, h2, h⟩ := z0h h
  obtain rfl := z1m h
  obtain ⟨rfl, hs⟩ := z2d h1
  obtain ⟨rfl, -⟩ := z2d h2
  have hl := zl4 s p
  refine (Any.strings_CutSuffix Tryz.lays104 ⟨s.toArray⟩ ⟨p.toArray⟩ W (by rw [z83]; exact hs)).mono ?_
  rintro e w' ⟨rfl, rfl⟩
  exact ⟨_, rfl, Below.refl _ _, z7h rfl rfl (.s _ (by simp only at *; omega)) (.b _)⟩
end
section
open Go.RowKit
open Go.Lib (itoa atoiAll atoiSat)
set_option maxRecDepth 100000
set_option maxHeartbeats 4000000
section
variable {sp : Nat → zd} {N : Nat} {E E' : Env} {ks : List (List Dt → Option (List Dt))} {res : Option (List Dt)}
theorem z6m {neg : Bool} {a : Atom} {x : Bool} (ha : a.val E = some (.e x)) : denX sp E (.ise neg a) = some (.b (x == neg)) := by simp only [denX, ha]
end
theorem zjf {w : List UInt8} (h : (z0k w).2.is = true) : z3n w = none := by
 unfold z0k at h
 unfold z3n
 cases ha : atoiAll w with
 | ok v => rw [ha] at h; cases h
 | _ => rfl
theorem zjg {w : List UInt8} (h : (z0k w).2.is = false) : z3n w = if itoa (z0k w).1 = w then some (z0k w).1 else none := by
 unfold z0k at h ⊢
 unfold z3n
 cases ha : atoiAll w with
 | ok v => rfl
 | _ => rw [ha] at h; cases h
theorem z0c9 (k : Nat) (h : k < 14) : (opNames.map Dt.s)[(k : Int).toNat]? = some (.s ((opNames[k]?).getD [])) := by
 have hl : opNames.length = 14 := rfl
 rw [Int.toNat_natCast, List.getElem?_map, List.getElem?_eq_getElem (by omega)]
 rfl
theorem znj (w : List UInt8) : ∀ (l : List (List UInt8)) (k r : Int), 0 ≤ k → 0 ≤ r → r ≤ 13 → k + l.length ≤ 14 → 0 ≤ z2h w k r l ∧ z2h w k r l ≤ 13
 | [], k, r, _, h0, h1, _ => ⟨h0, h1⟩
 | n :: l, k, r, hk, h0, h1, h2 => by
  rw [z2h]
  simp only [List.length_cons] at h2
  refine znj w l (k + 1) _ (by omega) (by split <;> omega) (by split <;> omega) (by omega)
noncomputable def z5o : zd := spD (fun _ : List UInt8 => True) fun s => z2i s
theorem zjh (s : List UInt8) : z5o [.s s] = some [.l 2 ((z2i s).1.map eOp), I (z2i s).2] := zm (f := fun s : List UInt8 => z2i s) s trivial
def z6n (acc : List Op) (ws : List (List UInt8)) : List Op × Int := match z74 ws with
 | none => ([], 1)
 | some l => if zf (acc ++ l) ≠ 0 then ([], zf (acc ++ l)) else (acc ++ l, 0)
theorem zy2 (acc : List Op) (w : List UInt8) (ws : List (List UInt8)) : z6n acc (w :: ws) = match z7m w with
 | none => ([], 1)
 | some o => z6n (acc ++ [o]) ws := by
 unfold z6n
 rw [z74]
 cases z7m w with
 | none => rfl
 | some o =>
  cases z74 ws with
  | none => rfl
  | some l => simp only [Option.map_some, List.append_assoc, List.singleton_append]
theorem z04n (s : List UInt8) : z2i s = if 4000 < (s.length : Int) then ([], 2) else if s = [] then ([], 0) else z6n [] (zy 32 s) := by
 unfold z2i z6n
 rfl
theorem z01y (acc : List Op) : z6n acc [] = if zf acc ≠ 0 then ([], zf acc) else (acc, 0) := by
 unfold z6n
 rw [z74]
 simp only [List.append_nil]
theorem zy3 {w : List UInt8} (h : z57 w = 0) : z7m w = (z3n w).map fun n => ⟨1, n⟩ := if_pos h
theorem zy4 {w : List UInt8} (h : ¬ z57 w = 0) : z7m w = some ⟨z57 w, 0⟩ := if_neg h
theorem zh5 (w n : List UInt8) : ∀ (l : List (List UInt8)) (k r : Int), z2h w k r (l ++ [n]) = if n = w ∧ n ≠ [] then k + l.length else z2h w k r l
 | [], k, r => by simp only [List.nil_append, z2h, List.length_nil]; split <;> simp
 | m :: l, k, r => by
  rw [List.cons_append, z2h, z2h, zh5 w n l (k + 1)]
  split
  ·simp only [List.length_cons]; omega
  ·rfl
theorem z04o (w : List UInt8) (i : Nat) (h : i < 14) : z2h w 0 0 (opNames.take (i + 1)) = if (opNames[i]?).getD [] = w ∧ (opNames[i]?).getD [] ≠ [] then (i : Int) else z2h w 0 0 (opNames.take i) := by
 have hl : opNames.length = 14 := rfl
 rw [List.take_add_one, List.getElem?_eq_getElem (by omega)]
 simp only [Option.toList_some, Option.getD_some]
 rw [zh5, List.length_take]
 split
 ·omega
 ·rfl
attribute [local irreducible] den denX z0y z1h
attribute [local irreducible] z0o spD z1j itoa zf z3g z05 z2u z6n z0k zy z7m z2h z57
def zoz : T :=
 .ite (.v 32) (.lets [.bin .add (.v 26) (.c (.i .i64 1))] [] (.again 1 [.v 33, .v 26, .v 28])) (.lets [.bin .add (.v 26) (.c (.i .i64 1))] [] (.again 1 [.v 33, .v 27, .v 28]))
def zp0 : T :=
 .lets [.bin .eql (.v 30) (.v 11)] [] (.ite (.v 31) (.lets [.bin .neq (.v 30) (.c (.s []))] [] zoz) (.lets [.bin .add (.v 26) (.c (.i .i64 1))] [] (.again 1 [.v 32, .v 27,
 .v 28])))
def zp1 : T :=
 .lets [.mk 2 [[.c (.i .i64 1), .v 31]]] [] (.lets [.app 2 (.v 8) (.v 36)] [] (.lets [.bin .add (.v 9) (.c (.i .i64 1))] [] (.again 0 [.v 6, .v 7, .v 37, .v 38])))
def zp2 : T :=
 .ite (.v 33) (.ret [.c (.nil 2), .c (.i .i64 1)]) (.lets [.call 37 [.v 31] 0] [] (.lets [.bin .neq (.v 34) (.v 11)] [] (.ite (.v 35) (.ret [.c (.nil 2), .c (.i .i64 1)])
 zp1)))
def zp3 : T :=
 .ite (.v 30) (.lets [.call 42 [.v 11] 0, .call 42 [.v 11] 1] [] (.lets [.ise true (.v 32)] [] zp2)) (.lets [.mk 2 [[.v 27, .v 28]]] [] (.lets [.app 2 (.v 8) (.v 31)] []
 (.lets [.bin .add (.v 9) (.c (.i .i64 1))] [] (.again 0 [.v 6, .v 7, .v 32, .v 33]))))
def zp4 : T :=
 .ite (.v 29) (.lets [.sel [.v 12, .v 13, .v 14, .v 15, .v 16, .v 17, .v 18, .v 19, .v 20, .v 21, .v 22, .v 23, .v 24, .v 25] (.v 26)] [] zp0) (.lets [.bin .eql (.v 27) (.c
 (.i .i64 0))] [] zp3)
def zp5 : T :=
 .lets [.call 39 [] 0, .call 39 [] 1, .call 39 [] 2, .call 39 [] 3, .call 39 [] 4, .call 39 [] 5, .call 39 [] 6, .call 39 [] 7, .call 39 [] 8, .call 39 [] 9, .call 39 [] 10, .call 39
 [] 11, .call 39 [] 12, .call 39 [] 13] [] (.loop [.c (.i .i64 0), .c (.i .i64 0), .c (.i .i64 0)] (.lets [.bin .lss (.v 26) (.c (.i .i64 14))] [] zp4))
def zp6 : T :=
 .ite (.v 10) (.lets [] [.inr 1 (.v 4) (.v 9)] (.lets [.idx (.v 4) (.v 9) 0] [] zp5)) (.lets [.call 7 [.v 8] 0] [] (.lets [.bin .neq (.v 11) (.c (.i .i64 0))] [] (.ite (.v
 12) (.ret [.c (.nil 2), .v 11]) (.ret [.v 8, .c (.i .i64 0)]))))
def zp7 : T :=
 .lets [.call 41 [.v 0, .c (.s [32])] 0] [] (.lets [.len (.v 4)] [] (.loop [.c (.nil 2), .c (.i .i64 0), .c (.nil 2), .c (.i .i64 0)] (.lets [.bin .lss (.v 9) (.v 5)] []
 zp6)))
def zp8 : T :=
 .lets [.bin .gtr (.v 1) (.c (.i .i64 4000))] [] (.ite (.v 2) (.ret [.c (.nil 2), .c (.i .i64 2)]) (.lets [.bin .eql (.v 0) (.c (.s []))] [] (.ite (.v 3) (.ret [.c (.nil 2), .c (.i
 .i64 0)]) zp7)))
def zc3 : T :=
 .lets [.slen (.v 0)] [] zp8
attribute [local irreducible] z48 z3a z0u z1r
theorem zy5 : Meets Tryz.prog z5o 126 ⟨[.one], [(false, [.fresh 88 2]), (false, [.scal])], false⟩ := by
 refine zo (sp := (z0i [(7, z0u), (37, z3a), (39, z2u), (41, z1r), (42, z48)])) (sigs := z0q) (cut := []) (hints := [⟨7, [.r 2 88 2, .t 3, .r 4 88 2, .t 21]⟩, ⟨11, [.t 27, .o 7]⟩]) (fn := Tryz.f126) (t := zc3) (by kernel_rfl) (by kernel_rfl) (by kernel_rfl) ?_ ?_
 ·exact (z07 (L := [(7, z0u), (37, z3a), (39, z2u), (41, z1r), (42, z48)]) ⟨za rfl z6f, za rfl zj9, za rfl zh2, za rfl zdy, za rfl zu2, trivial⟩)
 ·rintro ds rs hok h
  obtain ⟨s, -, rfl, rfl⟩ := zq h
  clear h
  refine ⟨⟨s.length + 20, ?_⟩, ?_⟩
  ·show den _ _ zc3 [.s s] [] = ret (z2i s)
   rw [z04n]
   unfold zc3
   repeat' (first | refine dq1 ?_ | refine dqc ?_ | refine dqm ?_ | exact z4 rfl rfl | ((first | refine tR ?_ ?_ | refine tB ?_ ?_ | refine tC ?_ ?_ | refine tN ?_ ?_ | refine tF ?_ ?_ | refine tG ?_ ?_ | refine tP ?_ ?_ | refine tQ ?_ ?_ | refine tA ?_ ?_ | refine tO ?_ ?_ | refine tU ?_ ?_ | refine tV ?_ ?_) <;> intro h) | refine dqT ?_ | refine dqF ?_ | refine z6 rfl ?_ | refine z5 rfl ?_ | refine z8 ?_ | refine z9 ?_)
   have hs4 : s.length ≤ 4000 := by omega
   have hcl := z7i 32 s
   repeat' (first | refine dq1 ?_ | refine dqc ?_ | refine dqm ?_ | refine dqK rfl (z62 s 32 (by omega)) ?_ | exact z4 rfl rfl | ((first | refine tR ?_ ?_ | refine tB ?_ ?_ | refine tC ?_ ?_ | refine tN ?_ ?_ | refine tF ?_ ?_ | refine tG ?_ ?_ | refine tP ?_ ?_ | refine tQ ?_ ?_ | refine tA ?_ ?_ | refine tO ?_ ?_ | refine tU ?_ ?_ | refine tV ?_ ?_) <;> intro h) | refine dqT ?_ | refine dqF ?_ | refine z6 rfl ?_ | refine z5 rfl ?_ | refine z8 ?_ | refine z9 ?_)
   (refine z09 (fun (a : List Op) k => [.l 2 [], I 0, .l 2 (a.map eOp), I k]) (fun (a : List Op) _ (r : List (List UInt8)) => z6n a r) (fun a k => a.length = k) [] (zy 32 s) ?_ ?_ ?_ ?_ ?_; rfl; exact rfl; omega)
   ·rintro a k w r hx hd hk ha again hag
    have hw := hcl.2 w (List.mem_of_getElem? hx)
    rw [zy2]
    have hk0 := (znj w opNames 0 0 (by decide) (by decide) (by decide) (by decide)).1
    repeat' (first | refine dq1 ?_ | refine dqc ?_ | refine dqm ?_ | refine dqK rfl (zbj) ?_ | exact z4 rfl rfl | ((first | refine tR ?_ ?_ | refine tB ?_ ?_ | refine tC ?_ ?_ | refine tN ?_ ?_ | refine tF ?_ ?_ | refine tG ?_ ?_ | refine tP ?_ ?_ | refine tQ ?_ ?_ | refine tA ?_ ?_ | refine tO ?_ ?_ | refine tU ?_ ?_ | refine tV ?_ ?_) <;> intro h) | refine dqT ?_ | refine dqF ?_ | refine z6 rfl ?_ | refine z5 rfl ?_ | refine z8 ?_ | refine z9 ?_)
    (refine z03y (st := fun i => [I i, I (z2h w 0 0 (opNames.take i)), I 0]) (n := 14) (by with_unfolding_all rfl) (by omega) ?_ ?_)
    ·intro i hi again' hag'
     have hn := z0c9 i hi
     have hag' : again' [I ((i : Int) + 1), I (z2h w 0 0 (opNames.take (i + 1))), I 0] = _ := hag'
     rw [z04o w i hi] at hag'
     generalize (opNames[i]?).getD [] = nm at *
     repeat' (first | refine dq1 ?_ | refine dqc ?_ | refine dqm ?_ | refine z7 (z12 rfl rfl (by omega) hn) ?_ | exact z4 rfl rfl | ((first | refine tR ?_ ?_ | refine tB ?_ ?_ | refine tC ?_ ?_ | refine tN ?_ ?_ | refine tF ?_ ?_ | refine tG ?_ ?_ | refine tP ?_ ?_ | refine tQ ?_ ?_ | refine tA ?_ ?_ | refine tO ?_ ?_ | refine tU ?_ ?_ | refine tV ?_ ?_) <;> intro h) | refine dqT ?_ | refine dqF ?_ | refine z6 rfl ?_ | refine z5 rfl ?_ | refine z8 ?_ | refine z9 ?_)
     refine z4o rfl (fun h1 => ?_) (fun h1 => ?_)
     ·repeat' (first | refine dq1 ?_ | refine dqc ?_ | refine dqm ?_ | exact z4 rfl rfl | ((first | refine tR ?_ ?_ | refine tB ?_ ?_ | refine tC ?_ ?_ | refine tN ?_ ?_ | refine tF ?_ ?_ | refine tG ?_ ?_ | refine tP ?_ ?_ | refine tQ ?_ ?_ | refine tA ?_ ?_ | refine tO ?_ ?_ | refine tU ?_ ?_ | refine tV ?_ ?_) <;> intro h) | refine dqT ?_ | refine dqF ?_ | refine z6 rfl ?_ | refine z5 rfl ?_ | refine z8 ?_ | refine z9 ?_)
      refine z4o rfl (fun h2 => ?_) (fun h2 => ?_)
      ·rw [if_pos ⟨h1, h2⟩] at hag'
       repeat' (first | refine dq1 ?_ | refine dqc ?_ | refine dqm ?_ | exact z4 rfl rfl | ((first | refine tR ?_ ?_ | refine tB ?_ ?_ | refine tC ?_ ?_ | refine tN ?_ ?_ | refine tF ?_ ?_ | refine tG ?_ ?_ | refine tP ?_ ?_ | refine tQ ?_ ?_ | refine tA ?_ ?_ | refine tO ?_ ?_ | refine tU ?_ ?_ | refine tV ?_ ?_) <;> intro h) | refine dqT ?_ | refine dqF ?_ | refine z6 rfl ?_ | refine z5 rfl ?_ | refine z8 ?_ | refine z9 ?_)
       exact ze rfl rfl hag'
      ·rw [if_neg (fun h => h2 h.2)] at hag'
       repeat' (first | refine dq1 ?_ | refine dqc ?_ | refine dqm ?_ | exact z4 rfl rfl | ((first | refine tR ?_ ?_ | refine tB ?_ ?_ | refine tC ?_ ?_ | refine tN ?_ ?_ | refine tF ?_ ?_ | refine tG ?_ ?_ | refine tP ?_ ?_ | refine tQ ?_ ?_ | refine tA ?_ ?_ | refine tO ?_ ?_ | refine tU ?_ ?_ | refine tV ?_ ?_) <;> intro h) | refine dqT ?_ | refine dqF ?_ | refine z6 rfl ?_ | refine z5 rfl ?_ | refine z8 ?_ | refine z9 ?_)
       exact ze rfl rfl hag'
     ·rw [if_neg (fun h => h1 h.1)] at hag'
      repeat' (first | refine dq1 ?_ | refine dqc ?_ | refine dqm ?_ | exact z4 rfl rfl | ((first | refine tR ?_ ?_ | refine tB ?_ ?_ | refine tC ?_ ?_ | refine tN ?_ ?_ | refine tF ?_ ?_ | refine tG ?_ ?_ | refine tP ?_ ?_ | refine tQ ?_ ?_ | refine tA ?_ ?_ | refine tO ?_ ?_ | refine tU ?_ ?_ | refine tV ?_ ?_) <;> intro h) | refine dqT ?_ | refine dqF ?_ | refine z6 rfl ?_ | refine z5 rfl ?_ | refine z8 ?_ | refine z9 ?_)
      exact ze rfl rfl hag'
    ·intro again'
     have ek : z2h w 0 0 (opNames.take 14) = z57 w := by with_unfolding_all rfl
     simp only [ek]
     have hko : 0 ≤ z57 w := by with_unfolding_all exact hk0
     have a9 := zdz w (by omega)
     repeat' (first | refine dq1 ?_ | refine dqc ?_ | refine dqm ?_ | exact z4 rfl rfl | ((first | refine tR ?_ ?_ | refine tB ?_ ?_ | refine tC ?_ ?_ | refine tN ?_ ?_ | refine tF ?_ ?_ | refine tG ?_ ?_ | refine tP ?_ ?_ | refine tQ ?_ ?_ | refine tA ?_ ?_ | refine tO ?_ ?_ | refine tU ?_ ?_ | refine tV ?_ ?_) <;> intro h) | refine dqT ?_ | refine dqF ?_ | refine z6 rfl ?_ | refine z5 rfl ?_ | refine z8 ?_ | refine z9 ?_)
     refine z4o rfl (fun h1 => ?_) (fun h1 => ?_)
     ·rw [zy3 h1]
      cases hi : (z0k w).2.is with
      | true =>
       rw [zjf hi]
       rw [hi] at a9
       repeat' (first | refine dq1 ?_ | refine dqc ?_ | refine dqm ?_ | refine dqK rfl (a9) ?_ | refine z7 (z6m rfl) ?_ | exact z4 rfl rfl | ((first | refine tR ?_ ?_ | refine tB ?_ ?_ | refine tC ?_ ?_ | refine tN ?_ ?_ | refine tF ?_ ?_ | refine tG ?_ ?_ | refine tP ?_ ?_ | refine tQ ?_ ?_ | refine tA ?_ ?_ | refine tO ?_ ?_ | refine tU ?_ ?_ | refine tV ?_ ?_) <;> intro h) | refine dqT ?_ | refine dqF ?_ | refine z6 rfl ?_ | refine z5 rfl ?_ | refine z8 ?_ | refine z9 ?_)
      | false =>
       rw [zjg hi]
       rw [hi] at a9
       generalize (z0k w).1 = n at *
       repeat' (first | refine dq1 ?_ | refine dqc ?_ | refine dqm ?_ | refine dqK rfl (a9) ?_ | refine dqK rfl (z9v _) ?_ | refine z7 (z6m rfl) ?_ | exact z4 rfl rfl | ((first | refine tR ?_ ?_ | refine tB ?_ ?_ | refine tC ?_ ?_ | refine tN ?_ ?_ | refine tF ?_ ?_ | refine tG ?_ ?_ | refine tP ?_ ?_ | refine tQ ?_ ?_ | refine tA ?_ ?_ | refine tO ?_ ?_ | refine tU ?_ ?_ | refine tV ?_ ?_) <;> intro h) | refine dqT ?_ | refine dqF ?_ | refine z6 rfl ?_ | refine z5 rfl ?_ | refine z8 ?_ | refine z9 ?_)
       refine z4o rfl (fun h2 => ?_) (fun h2 => ?_)
       ·rw [if_neg h2]
        repeat' (first | refine dq1 ?_ | refine dqc ?_ | refine dqm ?_ | exact z4 rfl rfl | ((first | refine tR ?_ ?_ | refine tB ?_ ?_ | refine tC ?_ ?_ | refine tN ?_ ?_ | refine tF ?_ ?_ | refine tG ?_ ?_ | refine tP ?_ ?_ | refine tQ ?_ ?_ | refine tA ?_ ?_ | refine tO ?_ ?_ | refine tU ?_ ?_ | refine tV ?_ ?_) <;> intro h) | refine dqT ?_ | refine dqF ?_ | refine z6 rfl ?_ | refine z5 rfl ?_ | refine z8 ?_ | refine z9 ?_)
       ·have h2 := Decidable.not_not.1 h2
        rw [if_pos h2]
        simp only [Option.map_some]
        repeat' (first | refine dq1 ?_ | refine dqc ?_ | refine dqm ?_ | refine z7 (z29 rfl rfl (by simp)) ?_ | refine z7 (z4s (x := ⟨1, n⟩) (fun _ => rfl) rfl rfl (by omega)) ?_ | exact z4 rfl rfl | ((first | refine tR ?_ ?_ | refine tB ?_ ?_ | refine tC ?_ ?_ | refine tN ?_ ?_ | refine tF ?_ ?_ | refine tG ?_ ?_ | refine tP ?_ ?_ | refine tQ ?_ ?_ | refine tA ?_ ?_ | refine tO ?_ ?_ | refine tU ?_ ?_ | refine tV ?_ ?_) <;> intro h) | refine dqT ?_ | refine dqF ?_ | refine z6 rfl ?_ | refine z5 rfl ?_ | refine z8 ?_ | refine z9 ?_)
        exact ze rfl rfl (hag (a ++ [⟨1, n⟩]) (by rw [List.length_append, ha]; rfl))
     ·rw [zy4 h1]
      simp only
      repeat' (first | refine dq1 ?_ | refine dqc ?_ | refine dqm ?_ | refine z7 (z29 rfl rfl (by simp)) ?_ | refine z7 (z4s (x := ⟨z57 w, 0⟩) (fun _ => rfl) rfl rfl (by omega)) ?_ | exact z4 rfl rfl | ((first | refine tR ?_ ?_ | refine tB ?_ ?_ | refine tC ?_ ?_ | refine tN ?_ ?_ | refine tF ?_ ?_ | refine tG ?_ ?_ | refine tP ?_ ?_ | refine tQ ?_ ?_ | refine tA ?_ ?_ | refine tO ?_ ?_ | refine tU ?_ ?_ | refine tV ?_ ?_) <;> intro h) | refine dqT ?_ | refine dqF ?_ | refine z6 rfl ?_ | refine z5 rfl ?_ | refine z8 ?_ | refine z9 ?_)
      exact ze rfl rfl (hag (a ++ [⟨z57 w, 0⟩]) (by rw [List.length_append, ha]; rfl))
   ·rintro a ha again
    rw [z01y]
    repeat' (first | refine dq1 ?_ | refine dqc ?_ | refine dqm ?_ | refine dqK rfl (z3v _) ?_ | exact z4 rfl rfl | ((first | refine tR ?_ ?_ | refine tB ?_ ?_ | refine tC ?_ ?_ | refine tN ?_ ?_ | refine tF ?_ ?_ | refine tG ?_ ?_ | refine tP ?_ ?_ | refine tQ ?_ ?_ | refine tA ?_ ?_ | refine tO ?_ ?_ | refine tU ?_ ?_ | refine tV ?_ ?_) <;> intro h) | refine dqT ?_ | refine dqF ?_ | refine z6 rfl ?_ | refine z5 rfl ?_ | refine z8 ?_ | refine z9 ?_)
  ·intro i d hi hd
   match i, hi, hd with
   | 0, hi, _ => simp [zk] at hi
   | 1, _, hd => simp only [Enc.e, z15, List.cons_append, List.nil_append, List.getElem?_cons_zero, List.getElem?_cons_succ, Option.some.injEq] at hd; subst hd; rfl
   | i + 2, hi, hd => simp [zk] at hi
end
section
open Go.RowKit
noncomputable def z95 : zd := spD (fun _ : List Int × List Int => True) fun x => decide (x.1 = x.2)
theorem zu5 (a b : List Int) : z95 [.l 1 (a.map z15), .l 1 (b.map z15)] = some [.b (decide (a = b))] := zm (f := fun x : List Int × List Int => decide (x.1 = x.2)) (a, b) trivial
theorem z07m : Meets Tryz.prog z95 94 ⟨[.one, .one], [(false, [.scal])], true⟩ :=
 zj7 rfl (z22 (fn := Tryz.f94) (by kernel_rfl) (by kernel_rfl) (by kernel_rfl)) fun ⟨a, b⟩ _ W F us hF h => by
  obtain ⟨v, us, rfl, h1, h⟩ := z0h h
  obtain ⟨v2, us, rfl, h2, h⟩ := z0h h
  obtain rfl := z1m h
  obtain ⟨A, n, c, rfl, k1⟩ := z5w z2z h1
  obtain ⟨A2, n2, c2, rfl, k2⟩ := z5w z2z h2
  refine (z02l a b A A2 n c n2 c2 W F F k1 k2).mono ?_
  rintro r W' ⟨rfl, m, rfl⟩
  exact ⟨rfl, z8k (Below.refl _ _) m⟩
end
section
open Go.RowKit
open Go.Lib (itoa)
set_option maxRecDepth 100000
set_option maxHeartbeats 4000000
def z2v (w : List UInt8) : Int × Bool := ((z0k w).1, !(z0k w).2.is && decide (itoa (z0k w).1 = w))
theorem zl5 (w : List UInt8) : z3n w = if (z2v w).2 = true then some (z2v w).1 else none := by
 unfold z2v
 cases hi : (z0k w).2.is with
 | true => rw [zjf hi]; rfl
 | false =>
  rw [zjg hi]
  by_cases h : itoa (z0k w).1 = w
  ·rw [if_pos h, if_pos (by simpa using h)]
  ·rw [if_neg h, if_neg (by simpa using h)]
def z6o (o : List Out) (i : List In) (x : List UInt8) (a : List Int) (ws : List (List UInt8)) : Option (List Out × List In) := match z58 ws with
 | none => none
 | some n => z5s o i x (a ++ n)
theorem zy6 (o : List Out) (i : List In) (x : List UInt8) (a : List Int) (w : List UInt8) (ws : List (List UInt8)) : z6o o i x a (w :: ws) = if (z2v w).2 = true then z6o o i x (a ++ [(z2v w).1]) ws else none := by
 unfold z6o
 rw [z58, zl5 w]
 by_cases h : (z2v w).2 = true
 ·rw [if_pos h, if_pos h]
  simp only
  cases z58 ws with
  | none => rfl
  | some l => simp
 ·rw [if_neg h, if_neg h]
theorem z01z (o : List Out) (i : List In) (x : List UInt8) (a : List Int) : z6o o i x a [] = z5s o i x a := by
 unfold z6o; rw [z58]; simp
theorem zy7 (o : List Out) (i : List In) (x : List UInt8) : z5a o i x = z6o o i x [] ((zy 32 (Go.Lib.cut x [58]).1).drop 1) := by
 unfold z5a z6o
 cases z58 ((zy 32 (Go.Lib.cut x [58]).1).drop 1) with
 | none => rfl
 | some n => simp
def zft (n : Int) (r : List (List UInt8)) (p : Option (List Out × List In)) : Tx × Int := match p with
 | none => (zTx, 1)
 | some p => z1c n p.1 p.2 r
theorem zu6 (n : Int) (o : List Out) (i : List In) (x : List UInt8) (r : List (List UInt8)) : z1c n o i (x :: r) = zft n r (z6o o i x [] ((zy 32 (Go.Lib.cut x [58]).1).drop 1)) := by
 rw [z1c, zy7]
 rfl
theorem z020 (n : Int) (r : List (List UInt8)) (o : List Out) (i : List In) (x : List UInt8) (a : List Int) {hd0 q : List UInt8} {fd : Bool} {v0 : List UInt8} {vs : List (List UInt8)} {l : List Op} {e : Int} (hc : Go.Lib.cut x [58] = (hd0, q, fd)) (hv : zy 32 hd0 = v0 :: vs) (hr : z2i q = (l, e)) : zft n r (z5s o i x a) =
 if e ≠ 0 then (zTx, 1) else if Go.Lib.contains x [58] = false then (zTx, 1) else
 if v0 = tIn ∧ a.length = 2 ∧ o.length = 0 then z1c n o (i ++ [⟨⟨a.getD 0 0, a.getD 1 0⟩, l⟩]) r else
 if v0 = z59 ∧ a.length = 1 then z1c n (o ++ [⟨a.getD 0 0, l⟩]) i r else (zTx, 1) := by
 have e1 : z5s o i x a = if e ≠ 0 then none else if Go.Lib.contains x [58] = false then none else
  if v0 = tIn ∧ a.length = 2 ∧ o.length = 0 then some (o, i ++ [⟨⟨a.getD 0 0, a.getD 1 0⟩, l⟩]) else
  if v0 = z59 ∧ a.length = 1 then some (o ++ [⟨a.getD 0 0, l⟩], i) else none := by
  unfold z5s
  rw [hc]
  show (if (z2i q).2 ≠ 0 then none else if Go.Lib.contains x [58] = false then none else
   if (zy 32 hd0).headD [] = tIn ∧ a.length = 2 ∧ o.length = 0 then some (o, i ++ [⟨⟨a.getD 0 0, a.getD 1 0⟩, (z2i q).1⟩]) else
   if (zy 32 hd0).headD [] = z59 ∧ a.length = 1 then some (o ++ [⟨a.getD 0 0, (z2i q).1⟩], i) else none) = _
  rw [hr, hv]
  rfl
 rw [e1]
 by_cases h1 : e ≠ 0
 ·rw [if_pos h1, if_pos h1]; rfl
 rw [if_neg h1, if_neg h1]
 by_cases h2 : Go.Lib.contains x [58] = false
 ·rw [if_pos h2, if_pos h2]; rfl
 rw [if_neg h2, if_neg h2]
 by_cases h3 : v0 = tIn ∧ a.length = 2 ∧ o.length = 0
 ·rw [if_pos h3, if_pos h3]; rfl
 rw [if_neg h3, if_neg h3]
 by_cases h4 : v0 = z59 ∧ a.length = 1
 ·rw [if_pos h4, if_pos h4]; rfl
 rw [if_neg h4, if_neg h4]; rfl
theorem z04p (s : List UInt8) : z1v s = if 4000 < (s.length : Int) then (zTx, 2) else
 if Go.Lib.hasSuffix s [10] = false then (zTx, 1) else
 if Go.Lib.hasPrefix ((zy 10 (Go.Lib.trimSuffix s [10])).headD []) tTx = false then (zTx, 1) else
 if (z2v (Go.Lib.trimPrefix ((zy 10 (Go.Lib.trimSuffix s [10])).headD []) tTx)).2 = true then z1c (z2v (Go.Lib.trimPrefix ((zy 10 (Go.Lib.trimSuffix s [10])).headD []) tTx)).1 [] [] ((zy 10 (Go.Lib.trimSuffix s [10])).drop 1) else (zTx, 1) := by
 unfold z1v
 rw [zl5]
 by_cases h : (z2v (Go.Lib.trimPrefix ((zy 10 (Go.Lib.trimSuffix s [10])).headD []) tTx)).2 = true
 ·rw [if_pos h, if_pos h]
 ·rw [if_neg h, if_neg h]
theorem zl6 (t : Tx) : z2m [I t.height, .l 3 (t.ins.map eIn), .l 2 (t.outs.map z27)] = some [I (zl t)] := zm (f := fun t : Tx => zl t) t trivial
noncomputable def z8v : zd := spD (fun s : List UInt8 => s.length ≤ 1000000000) fun s => z2v s
theorem zcs (s : List UInt8) (h : s.length ≤ 1000000000) : z8v [.s s] = some [I (z2v s).1, .b (z2v s).2] := zm (p := fun s : List UInt8 => s.length ≤ 1000000000) (f := fun s : List UInt8 => z2v s) s h
noncomputable def z63 : zd := spD (fun _ : List UInt8 => True) fun s => z1v s
theorem zp9 (s : List UInt8) : z63 [.s s] = some (eTx (z1v s).1 ++ [I (z1v s).2]) := zm (f := fun s : List UInt8 => z1v s) s trivial
attribute [local irreducible] z0o spD z1j itoa zf z3g z05 z6n z0k zy zl z2i
section
variable {α : Type} {f : α → List Dt} {sp : Nat → zd} {N : Nat} {E : Env}
theorem zl7 {sz : Nat} {a : Atom} {x : α} {l : List α} (ha : a.val E = some (.l sz ((x :: l).map f))) : denX sp E (.sub sz a (some (.c (.i .i64 1))) none) = some (.l sz (l.map f)) := by
 have hl : (x :: l).length = l.length + 1 := rfl
 rw [zr4 (m := 1) (n := ((x :: l).length : Int)) ha rfl rfl (by omega) (by omega) (by omega)]
 simp
end
attribute [local irreducible] den denX z0y z1h
def ze0 : T :=
 .lets [.call 42 [.v 0] 0, .call 42 [.v 0] 1] [] (.lets [.ise false (.v 2)] [] (.ite (.v 3) (.lets [.call 37 [.v 1] 0] [] (.lets [.bin .eql (.v 4) (.v 0)] [] (.ret [.v 1, .v 5])))
 (.ret [.v 1, .c (.b false)])))
def zy8 : T :=
 .ite (.v 35) (.ret [.c (.i .i64 0), .c (.nil 3), .c (.nil 2), .c (.i .i64 1)]) (.lets [.mk 1 [[.v 33]]] [] (.lets [.app 1 (.v 29) (.v 36)] [] (.lets [.bin .add (.v 30) (.c (.i .i64
 1))] [] (.again 1 [.v 28, .v 37, .v 38]))))
def zy9 : T :=
 .lets [.mk 3 [[.v 43, .v 44, .v 32]]] [] (.lets [.app 3 (.v 17) (.v 45)] [] (.lets [.bin .add (.v 19) (.c (.i .i64 1))] [] (.again 0 [.v 16, .v 46, .v 18, .v 47])))
def zya : T :=
 .lets [] [.inr 1 (.v 29) (.c (.i .i64 0))] (.lets [.idx (.v 29) (.c (.i .i64 0)) 0] [] (.lets [] [.inr 1 (.v 29) (.c (.i .i64 1))] (.lets [.idx (.v 29) (.c (.i .i64 1)) 0] []
 zy9)))
def zyb : T :=
 .lets [.idx (.v 29) (.c (.i .i64 0)) 0] [] (.lets [.mk 2 [[.v 47, .v 32]]] [] (.lets [.app 2 (.v 16) (.v 48)] [] (.lets [.bin .add (.v 19) (.c (.i .i64 1))] [] (.again 0 [.v 49, .v
 17, .v 18, .v 50]))))
def zyc : T :=
 .lets [.bin .eql (.v 45) (.c (.i .i64 1))] [] (.ite (.v 46) (.lets [] [.inr 1 (.v 29) (.c (.i .i64 0))] zyb) (.ret [.c (.i .i64 0), .c (.nil 3), .c (.nil 2), .c (.i .i64
 1)]))
def zyd : T :=
 .lets [.bin .eql (.v 43) (.c (.s [111, 117, 116]))] [] (.ite (.v 44) (.lets [.len (.v 29)] [] zyc) (.ret [.c (.i .i64 0), .c (.nil 3), .c (.nil 2), .c (.i .i64 1)]))
def zye : T :=
 .lets [.bin .eql (.v 41) (.c (.i .i64 0))] [] (.ite (.v 42) zya (.lets [] [.inr 1 (.v 25) (.c (.i .i64 0))] (.lets [.idx (.v 25) (.c (.i .i64 0)) 0] [] zyd)))
def zyf : T :=
 .lets [.idx (.v 29) (.c (.i .i64 0)) 0] [] (.lets [.mk 2 [[.v 45, .v 32]]] [] (.lets [.app 2 (.v 16) (.v 46)] [] (.lets [.bin .add (.v 19) (.c (.i .i64 1))] [] (.again 0 [.v 47, .v
 17, .v 18, .v 48]))))
def zyg : T :=
 .lets [.bin .eql (.v 43) (.c (.i .i64 1))] [] (.ite (.v 44) (.lets [] [.inr 1 (.v 29) (.c (.i .i64 0))] zyf) (.ret [.c (.i .i64 0), .c (.nil 3), .c (.nil 2), .c (.i .i64
 1)]))
def zyh : T :=
 .lets [.bin .eql (.v 41) (.c (.s [111, 117, 116]))] [] (.ite (.v 42) (.lets [.len (.v 29)] [] zyg) (.ret [.c (.i .i64 0), .c (.nil 3), .c (.nil 2), .c (.i .i64 1)]))
def zu7 : T :=
 .lets [.bin .eql (.v 39) (.c (.i .i64 2))] [] (.ite (.v 40) (.lets [.len (.v 16)] [] zye) (.lets [] [.inr 1 (.v 25) (.c (.i .i64 0))] (.lets [.idx (.v 25) (.c (.i .i64 0))
 0] [] zyh)))
def zu8 : T :=
 .lets [.idx (.v 29) (.c (.i .i64 0)) 0] [] (.lets [.mk 2 [[.v 43, .v 32]]] [] (.lets [.app 2 (.v 16) (.v 44)] [] (.lets [.bin .add (.v 19) (.c (.i .i64 1))] [] (.again 0 [.v 45, .v
 17, .v 18, .v 46]))))
def zu9 : T :=
 .lets [.bin .eql (.v 41) (.c (.i .i64 1))] [] (.ite (.v 42) (.lets [] [.inr 1 (.v 29) (.c (.i .i64 0))] zu8) (.ret [.c (.i .i64 0), .c (.nil 3), .c (.nil 2), .c (.i .i64
 1)]))
def zua : T :=
 .lets [.bin .eql (.v 39) (.c (.s [111, 117, 116]))] [] (.ite (.v 40) (.lets [.len (.v 29)] [] zu9) (.ret [.c (.i .i64 0), .c (.nil 3), .c (.nil 2), .c (.i .i64 1)]))
def zub : T :=
 .lets [.bin .eql (.v 37) (.c (.s [105, 110]))] [] (.ite (.v 38) (.lets [.len (.v 29)] [] zu7) (.lets [] [.inr 1 (.v 25) (.c (.i .i64 0))] (.lets [.idx (.v 25) (.c (.i .i64
 0)) 0] [] zua)))
def zuc : T :=
 .ite (.v 36) (.ret [.c (.i .i64 0), .c (.nil 3), .c (.nil 2), .c (.i .i64 1)]) (.lets [] [.inr 1 (.v 25) (.c (.i .i64 0))] (.lets [.idx (.v 25) (.c (.i .i64 0)) 0] [] zub))
def zud : T :=
 .ite (.v 34) (.ret [.c (.i .i64 0), .c (.nil 3), .c (.nil 2), .c (.i .i64 1)]) (.lets [.call 49 [.v 21, .c (.s [58])] 0] [] (.lets [.not (.v 35)] [] zuc))
def zue : T :=
 .ite (.v 31) (.lets [] [.inr 1 (.v 26) (.v 30)] (.lets [.idx (.v 26) (.v 30) 0] [] (.lets [.call 60 [.v 32] 0, .call 60 [.v 32] 1] [] (.lets [.not (.v 34)] [] zy8)))) (.lets
 [.call 55 [.v 23] 0, .call 55 [.v 23] 1] [] (.lets [.bin .neq (.v 33) (.c (.i .i64 0))] [] zud))
def zuf : T :=
 .lets [.sub 1 (.v 25) (some (.c (.i .i64 1))) none] [] (.lets [.len (.v 26)] [] (.loop [.c (.b false), .c (.nil 1), .c (.i .i64 0)] (.lets [.bin .lss (.v 30) (.v 27)] []
 zue)))
def zug : T :=
 .lets [.call 48 [.v 21, .c (.s [58])] 0, .call 48 [.v 21, .c (.s [58])] 1, .call 48 [.v 21, .c (.s [58])] 2] [] (.lets [.call 41 [.v 22, .c (.s [32])] 0] [] zuf)
def zuh : T :=
 .lets [.bin .neq (.v 21) (.c (.i .i64 0))] [] (.ite (.v 22) (.ret [.c (.i .i64 0), .c (.nil 3), .c (.nil 2), .v 21]) (.ret [.v 9, .v 17, .v 16, .c (.i .i64 0)]))
def zui : T :=
 .lets [.bin .lss (.v 19) (.v 15)] [] (.ite (.v 20) (.lets [] [.inr 1 (.v 14) (.v 19)] (.lets [.idx (.v 14) (.v 19) 0] [] zug)) (.lets [.call 17 [.v 9, .v 17, .v 16] 0] []
 zuh))
def zuj : T :=
 .ite (.v 13) (.ret [.c (.i .i64 0), .c (.nil 3), .c (.nil 2), .c (.i .i64 1)]) (.lets [.sub 1 (.v 5) (some (.c (.i .i64 1))) none] [] (.lets [.len (.v 14)] [] (.loop [.c (.nil 2),
 .c (.nil 3), .c (.i .i64 0), .c (.i .i64 0)] zui)))
def zuk : T :=
 .ite (.v 11) (.ret [.c (.i .i64 0), .c (.nil 3), .c (.nil 2), .c (.i .i64 1)]) (.lets [.not (.v 8)] [] (.ite (.v 12) (.ret [.c (.i .i64 0), .c (.nil 3), .c (.nil 2), .c (.i .i64
 1)]) (.lets [.not (.v 10)] [] zuj)))
def zul : T :=
 .lets [.call 51 [.v 6, .c (.s [116, 120, 32])] 0, .call 51 [.v 6, .c (.s [116, 120, 32])] 1] [] (.lets [.call 60 [.v 7] 0, .call 60 [.v 7] 1] [] (.lets [.not (.v 4)] []
 zuk))
def zum : T :=
 .lets [.call 52 [.v 0, .c (.s [10])] 0, .call 52 [.v 0, .c (.s [10])] 1] [] (.lets [.call 41 [.v 3, .c (.s [10])] 0] [] (.lets [] [.inr 1 (.v 5) (.c (.i .i64 0))] (.lets [.idx (.v
 5) (.c (.i .i64 0)) 0] [] zul)))
def zfu : T :=
 .lets [.slen (.v 0)] [] (.lets [.bin .gtr (.v 1) (.c (.i .i64 4000))] [] (.ite (.v 2) (.ret [.c (.i .i64 0), .c (.nil 3), .c (.nil 2), .c (.i .i64 2)]) zum))
attribute [local irreducible] z48 z3a
theorem z021 : Meets Tryz.prog z8v 83 ⟨[.one], [(false, [.scal]), (false, [.scal])], true⟩ := by
 refine zo (sp := (z0i [(37, z3a), (42, z48)])) (sigs := z0q) (cut := []) (hints := []) (fn := Tryz.f83) (t := ze0) (by kernel_rfl) (by kernel_rfl) (by kernel_rfl) ?_ ?_
 ·exact (z07 (L := [(37, z3a), (42, z48)]) ⟨za rfl zj9, za rfl zu2, trivial⟩)
 ·rintro ds rs - h
  obtain ⟨w, hw, rfl, rfl⟩ := zq h
  clear h
  refine ⟨⟨1, ?_⟩, z8i rfl rfl⟩
  show den _ _ ze0 [.s w] [] = ret (z2v w)
  have a1 := zdz w hw
  unfold ze0 z2v
  cases hi : (z0k w).2.is with
  | true =>
   rw [hi] at a1
   repeat' (first | refine dq1 ?_ | refine dqc ?_ | refine dqm ?_ | refine dqK rfl (a1) ?_ | refine z7 (z6m rfl) ?_ | exact z4 rfl rfl | ((first | refine tR ?_ ?_ | refine tB ?_ ?_ | refine tC ?_ ?_ | refine tN ?_ ?_ | refine tF ?_ ?_ | refine tG ?_ ?_ | refine tP ?_ ?_ | refine tQ ?_ ?_ | refine tA ?_ ?_ | refine tO ?_ ?_ | refine tU ?_ ?_ | refine tV ?_ ?_) <;> intro h) | refine dqT ?_ | refine dqF ?_ | refine z6 rfl ?_ | refine z5 rfl ?_ | refine z8 ?_ | refine z9 ?_)
  | false =>
   rw [hi] at a1
   repeat' (first | refine dq1 ?_ | refine dqc ?_ | refine dqm ?_ | refine dqK rfl (a1) ?_ | refine dqK rfl (z9v _) ?_ | refine z7 (z6m rfl) ?_ | exact z4 rfl rfl | ((first | refine tR ?_ ?_ | refine tB ?_ ?_ | refine tC ?_ ?_ | refine tN ?_ ?_ | refine tF ?_ ?_ | refine tG ?_ ?_ | refine tP ?_ ?_ | refine tQ ?_ ?_ | refine tA ?_ ?_ | refine tO ?_ ?_ | refine tU ?_ ?_ | refine tV ?_ ?_) <;> intro h) | refine dqT ?_ | refine dqF ?_ | refine z6 rfl ?_ | refine z5 rfl ?_ | refine z8 ?_ | refine z9 ?_)
attribute [local irreducible] z2v z6o z1c zft z5s
attribute [local irreducible] z5m z5n z5o z49 z4e z1r z2m
theorem z04q : Meets Tryz.prog z63 29 ⟨[.one], [(true, [.scal, .pure, .pure]), (false, [.scal])], false⟩ := by
 refine zbg (sp := (z0i [(17, z2m), (41, z1r), (48, z4e), (49, z49), (51, z5m), (52, z5n), (55, z5o), (60, z8v)])) (sigs := z0q) (cut := []) (hints := [⟨11, [.n 11 2 661 84 2, .c 11 2 661, .n 11 1 660 90 3, .c 11 1 660, .t 3, .t 54]⟩]) (fns := [zbu 84 Tryz.f84 [⟨5, [.t 4, .r 9 3 1, .t 27]⟩] []]) (dep := 3) (pool := 600) (fn := Tryz.f29) (t := zfu) (by kernel_rfl) (by kernel_rfl) (by kernel_rfl) ?_ ?_ ?_
 ·exact (z37 (fn := Tryz.f84) (by kernel_rfl) (by kernel_rfl) (by kernel_rfl) (by kernel_rfl) (by kernel_rfl) zde)
 ·exact (z07 (L := [(17, z2m), (41, z1r), (48, z4e), (49, z49), (51, z5m), (52, z5n), (55, z5o), (60, z8v)]) ⟨za rfl zfk, za rfl zdy, za rfl zu3, za rfl zoy, za rfl zy0, za rfl zy1, za rfl zy5, za rfl z021, trivial⟩)
 ·rintro ds rs hok h
  obtain ⟨s, -, rfl, rfl⟩ := zq h
  clear h
  refine ⟨⟨s.length + 5000, ?_⟩, ?_⟩
  ·show den _ _ zfu [.s s] [] = ret (z1v s)
   rw [z04p]
   unfold zfu
   repeat' (first | refine dq1 ?_ | refine dqc ?_ | refine dqm ?_ | exact z4 rfl rfl | ((first | refine tR ?_ ?_ | refine tB ?_ ?_ | refine tC ?_ ?_ | refine tN ?_ ?_ | refine tF ?_ ?_ | refine tG ?_ ?_ | refine tP ?_ ?_ | refine tQ ?_ ?_ | refine tA ?_ ?_ | refine tO ?_ ?_ | refine tU ?_ ?_ | refine tV ?_ ?_) <;> intro h) | refine dqT ?_ | refine dqF ?_ | refine z6 rfl ?_ | refine z5 rfl ?_ | refine z8 ?_ | refine z9 ?_)
   have hs4 : s.length ≤ 4000 := by omega
   have hrs : (Go.Lib.trimSuffix s [10]).length ≤ s.length := by
    unfold Go.Lib.trimSuffix
    split
    ·simp
    ·exact Nat.le_refl _
   have hr4 : (Go.Lib.trimSuffix s [10]).length ≤ 4000 := by omega
   have hcl := z7i 10 (Go.Lib.trimSuffix s [10])
   have a1 := zje s [10]
   have a2 := z62 (Go.Lib.trimSuffix s [10]) 10 (by omega)
   have hne := zhf 10 (Go.Lib.trimSuffix s [10])
   generalize zy 10 (Go.Lib.trimSuffix s [10]) = l at *
   cases l with
   | nil => exact absurd rfl hne
   | cons w0 ws =>
   simp only [List.headD_cons, List.drop_succ_cons, List.drop_zero]
   have hw0 : w0.length ≤ 4000 := by have := hcl.2 w0 (by simp); omega
   have hx : (w0 :: ws)[0]? = some w0 := rfl
   have hln : (w0 :: ws).length = ws.length + 1 := rfl
   have a3 := zjd w0 tTx
   have ht0 : (Go.Lib.trimPrefix w0 tTx).length ≤ 4000 := by
    unfold Go.Lib.trimPrefix
    split
    ·simp; omega
    ·omega
   have a4 := zcs (Go.Lib.trimPrefix w0 tTx) (by omega)
   generalize z2v (Go.Lib.trimPrefix w0 tTx) = nb at *
   obtain ⟨n, ok⟩ := nb
   generalize Go.Lib.trimPrefix w0 tTx = h0 at *
   generalize Go.Lib.hasPrefix w0 tTx = is at *
   generalize Go.Lib.hasSuffix s [10] = sfx at *
   generalize Go.Lib.trimSuffix s [10] = rest at *
   simp only at *
   repeat' (first | refine dq1 ?_ | refine dqc ?_ | refine dqm ?_ | refine dqK rfl (a1) ?_ | refine dqK rfl (a2) ?_ | refine dqK rfl (a3) ?_ | refine dqK rfl (a4) ?_ | refine z7 (zl7 rfl) ?_ | exact z4 rfl rfl | ((first | refine tR ?_ ?_ | refine tB ?_ ?_ | refine tC ?_ ?_ | refine tN ?_ ?_ | refine tF ?_ ?_ | refine tG ?_ ?_ | refine tP ?_ ?_ | refine tQ ?_ ?_ | refine tA ?_ ?_ | refine tO ?_ ?_ | refine tU ?_ ?_ | refine tV ?_ ?_) <;> intro h) | refine dqT ?_ | refine dqF ?_ | refine z6 rfl ?_ | refine z5 rfl ?_ | refine z8 ?_ | refine z9 ?_)
   (refine z09 (fun (a : List Out × List In) k => [.l 2 (a.1.map z27), .l 3 (a.2.map eIn), I 0, I k]) (fun (a : List Out × List In) _ (r : List (List UInt8)) => z1c n a.1 a.2 r) (fun a k => a.1.length + a.2.length = k) ([], []) ws ?_ ?_ ?_ ?_ ?_; rfl; exact rfl; omega)
   ·rintro ⟨o, i⟩ k x r hx hd hk ha again hag
    simp only at ha hag ⊢
    have hxl : x.length ≤ 4000 := by have := hcl.2 x (List.mem_cons_of_mem _ (List.mem_of_getElem? hx)); omega
    rw [zu6]
    have b1 := zfs x [58] (by omega)
    have b2 := zjh (Go.Lib.cut x [58]).2.1
    have b3 := zgo x [58] (by omega)
    have hc1 : (Go.Lib.cut x [58]).1.length ≤ 4000 := by
     unfold Go.Lib.cut
     split
     ·simp; omega
     ·simp only; omega
    have b4 := z62 (Go.Lib.cut x [58]).1 32 (by omega)
    have hcw := z7i 32 (Go.Lib.cut x [58]).1
    have hne2 := zhf 32 (Go.Lib.cut x [58]).1
    generalize hc : Go.Lib.cut x [58] = c at *
    obtain ⟨hd0, q, fd⟩ := c
    simp only at *
    generalize hv : zy 32 hd0 = v at *
    cases v with
    | nil => exact absurd rfl hne2
    | cons v0 vs =>
    generalize hr : z2i q = rd at *
    obtain ⟨l, e⟩ := rd
    have fe := fun a => z020 n r o i x a hc hv hr
    simp only [List.drop_succ_cons, List.drop_zero] at b2 ⊢
    have hv0 : (v0 :: vs)[0]? = some v0 := rfl
    have hvn : (v0 :: vs).length = vs.length + 1 := rfl
    repeat' (first | refine dq1 ?_ | refine dqc ?_ | refine dqm ?_ | refine dqK rfl (b1) ?_ | refine dqK rfl (b4) ?_ | refine z7 (zl7 rfl) ?_ | exact z4 rfl rfl | ((first | refine tR ?_ ?_ | refine tB ?_ ?_ | refine tC ?_ ?_ | refine tN ?_ ?_ | refine tF ?_ ?_ | refine tG ?_ ?_ | refine tP ?_ ?_ | refine tQ ?_ ?_ | refine tA ?_ ?_ | refine tO ?_ ?_ | refine tU ?_ ?_ | refine tV ?_ ?_) <;> intro h) | refine dqT ?_ | refine dqF ?_ | refine z6 rfl ?_ | refine z5 rfl ?_ | refine z8 ?_ | refine z9 ?_)
    (refine z09 (fun (a : List Int) k => [.b false, .l 1 (a.map z15), I k]) (fun (a : List Int) _ (r' : List (List UInt8)) => zft n r (z6o o i x a r')) (fun a k => a.length = k) [] vs ?_ ?_ ?_ ?_ ?_; rfl; exact rfl; omega)
    ·rintro a k' w r' hw hd' hk' ha' again' hag'
     try simp only at ha' hag' ⊢
     have hwl : w.length ≤ 4000 := by have := hcw.2 w (List.mem_cons_of_mem _ (List.mem_of_getElem? hw)); omega
     rw [zy6]
     have b6 := zcs w (by omega)
     generalize z2v w = nb at *
     obtain ⟨m, g⟩ := nb
     simp only at b6 ⊢
     cases g with
     | true =>
      rw [if_pos rfl]
      repeat' (first | refine dq1 ?_ | refine dqc ?_ | refine dqm ?_ | refine dqK rfl (b6) ?_ | refine z7 (z29 rfl rfl (by simp)) ?_ | refine z7 (z4s (x := m) (fun _ => rfl) rfl rfl (by omega)) ?_ | exact z4 rfl rfl | ((first | refine tR ?_ ?_ | refine tB ?_ ?_ | refine tC ?_ ?_ | refine tN ?_ ?_ | refine tF ?_ ?_ | refine tG ?_ ?_ | refine tP ?_ ?_ | refine tQ ?_ ?_ | refine tA ?_ ?_ | refine tO ?_ ?_ | refine tU ?_ ?_ | refine tV ?_ ?_) <;> intro h) | refine dqT ?_ | refine dqF ?_ | refine z6 rfl ?_ | refine z5 rfl ?_ | refine z8 ?_ | refine z9 ?_)
      exact ze rfl rfl (hag' (a ++ [m]) (by rw [List.length_append, ha']; rfl))
     | false =>
      rw [if_neg (by simp)]
      have e1 : zft n r none = (zTx, 1) := by with_unfolding_all rfl
      rw [e1]
      repeat' (first | refine dq1 ?_ | refine dqc ?_ | refine dqm ?_ | refine dqK rfl (b6) ?_ | exact z4 rfl rfl | ((first | refine tR ?_ ?_ | refine tB ?_ ?_ | refine tC ?_ ?_ | refine tN ?_ ?_ | refine tF ?_ ?_ | refine tG ?_ ?_ | refine tP ?_ ?_ | refine tQ ?_ ?_ | refine tA ?_ ?_ | refine tO ?_ ?_ | refine tU ?_ ?_ | refine tV ?_ ?_) <;> intro h) | refine dqT ?_ | refine dqF ?_ | refine z6 rfl ?_ | refine z5 rfl ?_ | refine z8 ?_ | refine z9 ?_)
    ·rintro a ha' again'
     try simp only at ha' ⊢
     rw [z01z, fe a]
     repeat' (first | refine dq1 ?_ | refine dqc ?_ | refine dqm ?_ | refine dqK rfl (b2) ?_ | refine dqK rfl (b3) ?_ | exact z4 rfl rfl | ((first | refine tR ?_ ?_ | refine tB ?_ ?_ | refine tC ?_ ?_ | refine tN ?_ ?_ | refine tF ?_ ?_ | refine tG ?_ ?_ | refine tP ?_ ?_ | refine tQ ?_ ?_ | refine tA ?_ ?_ | refine tO ?_ ?_ | refine tU ?_ ?_ | refine tV ?_ ?_) <;> intro h) | refine dqT ?_ | refine dqF ?_ | refine z6 rfl ?_ | refine z5 rfl ?_ | refine z8 ?_ | refine z9 ?_)
     by_cases hI : v0 = tIn ∧ a.length = 2 ∧ o.length = 0
     ·obtain ⟨rfl, h2, h3⟩ := hI
      rw [if_pos ⟨rfl, h2, h3⟩]
      match a, h2, o, h3 with
      | [a0, a1], _, [], _ =>
      have x0 : [a0, a1][0]? = some a0 := rfl
      have x1 : [a0, a1][1]? = some a1 := rfl
      have xl : [a0, a1].length = 2 := rfl
      have xo : ([] : List Out).length = 0 := rfl
      repeat' (first | refine dq1 ?_ | refine dqc ?_ | refine dqm ?_ | refine z7 (z29 rfl rfl (by simp)) ?_ | refine z7 (z4s (x := ⟨⟨a0, a1⟩, l⟩) (fun _ => rfl) rfl rfl (by omega)) ?_ | exact z4 rfl rfl | ((first | refine tR ?_ ?_ | refine tB ?_ ?_ | refine tC ?_ ?_ | refine tN ?_ ?_ | refine tF ?_ ?_ | refine tG ?_ ?_ | refine tP ?_ ?_ | refine tQ ?_ ?_ | refine tA ?_ ?_ | refine tO ?_ ?_ | refine tU ?_ ?_ | refine tV ?_ ?_) <;> intro h) | refine dqT ?_ | refine dqF ?_ | refine z6 rfl ?_ | refine z5 rfl ?_ | refine z8 ?_ | refine z9 ?_)
      exact ze rfl rfl (hag ([], i ++ [⟨⟨a0, a1⟩, l⟩]) (by simp; simp at ha; omega))
     ·rw [if_neg hI]
      by_cases hO : v0 = z59 ∧ a.length = 1
      ·obtain ⟨rfl, h2⟩ := hO
       rw [if_pos ⟨rfl, h2⟩]
       match a, h2 with
       | [a0], _ =>
       have x0 : [a0][0]? = some a0 := rfl
       have xl : [a0].length = 1 := rfl
       repeat' (first | refine dq1 ?_ | refine dqc ?_ | refine dqm ?_ | refine z7 (z29 rfl rfl (by simp)) ?_ | refine z7 (z4s (x := ⟨a0, l⟩) (fun _ => rfl) rfl rfl (by omega)) ?_ | exact z4 rfl rfl | ((first | refine tR ?_ ?_ | refine tB ?_ ?_ | refine tC ?_ ?_ | refine tN ?_ ?_ | refine tF ?_ ?_ | refine tG ?_ ?_ | refine tP ?_ ?_ | refine tQ ?_ ?_ | refine tA ?_ ?_ | refine tO ?_ ?_ | refine tU ?_ ?_ | refine tV ?_ ?_) <;> intro h) | refine dqT ?_ | refine dqF ?_ | refine z6 rfl ?_ | refine z5 rfl ?_ | refine z8 ?_ | refine z9 ?_)
       exact ze rfl rfl (hag (o ++ [⟨a0, l⟩], i) (by simp; omega))
      ·rw [if_neg hO]
       by_cases c1 : v0 = tIn
       ·subst c1
        by_cases c2 : a.length = 2
        ·have c3 : ¬ o.length = 0 := fun h => hI ⟨rfl, c2, h⟩
         repeat' (first | refine dq1 ?_ | refine dqc ?_ | refine dqm ?_ | exact z4 rfl rfl | ((first | refine tR ?_ ?_ | refine tB ?_ ?_ | refine tC ?_ ?_ | refine tN ?_ ?_ | refine tF ?_ ?_ | refine tG ?_ ?_ | refine tP ?_ ?_ | refine tQ ?_ ?_ | refine tA ?_ ?_ | refine tO ?_ ?_ | refine tU ?_ ?_ | refine tV ?_ ?_) <;> intro h) | refine dqT ?_ | refine dqF ?_ | refine z6 rfl ?_ | refine z5 rfl ?_ | refine z8 ?_ | refine z9 ?_)
        ·repeat' (first | refine dq1 ?_ | refine dqc ?_ | refine dqm ?_ | exact z4 rfl rfl | ((first | refine tR ?_ ?_ | refine tB ?_ ?_ | refine tC ?_ ?_ | refine tN ?_ ?_ | refine tF ?_ ?_ | refine tG ?_ ?_ | refine tP ?_ ?_ | refine tQ ?_ ?_ | refine tA ?_ ?_ | refine tO ?_ ?_ | refine tU ?_ ?_ | refine tV ?_ ?_) <;> intro h) | refine dqT ?_ | refine dqF ?_ | refine z6 rfl ?_ | refine z5 rfl ?_ | refine z8 ?_ | refine z9 ?_)
       ·by_cases c4 : v0 = z59
        ·subst c4
         have c5 : ¬ a.length = 1 := fun h => hO ⟨rfl, h⟩
         repeat' (first | refine dq1 ?_ | refine dqc ?_ | refine dqm ?_ | exact z4 rfl rfl | ((first | refine tR ?_ ?_ | refine tB ?_ ?_ | refine tC ?_ ?_ | refine tN ?_ ?_ | refine tF ?_ ?_ | refine tG ?_ ?_ | refine tP ?_ ?_ | refine tQ ?_ ?_ | refine tA ?_ ?_ | refine tO ?_ ?_ | refine tU ?_ ?_ | refine tV ?_ ?_) <;> intro h) | refine dqT ?_ | refine dqF ?_ | refine z6 rfl ?_ | refine z5 rfl ?_ | refine z8 ?_ | refine z9 ?_)
        ·repeat' (first | refine dq1 ?_ | refine dqc ?_ | refine dqm ?_ | exact z4 rfl rfl | ((first | refine tR ?_ ?_ | refine tB ?_ ?_ | refine tC ?_ ?_ | refine tN ?_ ?_ | refine tF ?_ ?_ | refine tG ?_ ?_ | refine tP ?_ ?_ | refine tQ ?_ ?_ | refine tA ?_ ?_ | refine tO ?_ ?_ | refine tU ?_ ?_ | refine tV ?_ ?_) <;> intro h) | refine dqT ?_ | refine dqF ?_ | refine z6 rfl ?_ | refine z5 rfl ?_ | refine z8 ?_ | refine z9 ?_)
   ·rintro ⟨o, i⟩ ha again
    simp only at ha ⊢
    have e0 : z1c n o i [] = if zl ⟨n, i, o⟩ ≠ 0 then (zTx, zl ⟨n, i, o⟩) else (⟨n, i, o⟩, 0) := by with_unfolding_all rfl
    rw [e0]
    have b5 := zl6 ⟨n, i, o⟩
    simp only at b5
    repeat' (first | refine dq1 ?_ | refine dqc ?_ | refine dqm ?_ | refine dqK rfl (b5) ?_ | exact z4 rfl rfl | ((first | refine tR ?_ ?_ | refine tB ?_ ?_ | refine tC ?_ ?_ | refine tN ?_ ?_ | refine tF ?_ ?_ | refine tG ?_ ?_ | refine tP ?_ ?_ | refine tQ ?_ ?_ | refine tA ?_ ?_ | refine tO ?_ ?_ | refine tU ?_ ?_ | refine tV ?_ ?_) <;> intro h) | refine dqT ?_ | refine dqF ?_ | refine z6 rfl ?_ | refine z5 rfl ?_ | refine z8 ?_ | refine z9 ?_)
  ·intro i d hi hd
   match i, hi, hd with
   | 0, _, hd =>
    obtain rfl : I (z1v s).1.height = d := Option.some.inj hd
    rfl
   | 1, hi, _ => simp [zk] at hi
   | 2, hi, _ => simp [zk] at hi
   | 3, _, hd =>
    obtain rfl : I (z1v s).2 = d := Option.some.inj hd
    rfl
   | i + 4, hi, hd => simp [zk] at hi
end
section
open Go.Lib (itoa)
open Go.RowKit
def zaw : List UInt8 := [98, 108, 111, 99, 107]
def z1k : List UInt8 := [10, 116, 120, 32]
def zun : Block := ⟨0, 0, 0, 0, []⟩
abbrev z9i := Int × Int × Int × Int
def set4 (o : z9i) (k : Nat) (n : Int) : z9i := match k with
 | 0 => (n, o.2)
 | 1 => (o.1, n, o.2.2)
 | 2 => (o.1, o.2.1, n, o.2.2.2)
 | _ => (o.1, o.2.1, o.2.2.1, n)
def ze1 (o : z9i) (k : Nat) : List (List UInt8) → z9i × Bool
 | [] => (o, true)
 | x :: r => if (z2v x).2 = true then ze1 (set4 o k (z2v x).1) (k + 1) r else (o, false)
def z18 (s : List UInt8) : z9i × Bool :=
 if ((zy 32 s).length : Int) ≠ 5 then ((0, 0, 0, 0), false) else
 if (zy 32 s).headD [] ≠ zaw then ((0, 0, 0, 0), false) else ze1 (0, 0, 0, 0) 0 ((zy 32 s).drop 1)
def z32 (s : List UInt8) : Int := Go.Lib.index (s.drop 1) z1k
def z56 (s : List UInt8) : List UInt8 := if 0 ≤ z32 s then s.take (z32 s + 2).toNat else s
def z1y : Nat → List UInt8 → List (List UInt8)
 | 0, _ => []
 | f + 1, s => if s = [] then [] else z56 s :: z1y f (s.drop (z56 s).length)
def zuo (h : z9i) (l : List Tx) : Block × Int := if zp ⟨h.1, h.2.1, h.2.2.1, h.2.2.2, l⟩ ≠ 0 then (zun, zp ⟨h.1, h.2.1, h.2.2.1, h.2.2.2, l⟩) else (⟨h.1, h.2.1, h.2.2.1, h.2.2.2, l⟩, 0)
def z6p (h : z9i) (l : List Tx) : List (List UInt8) → Block × Int
 | [] => zuo h l
 | p :: r => if (z1v p).2 ≠ 0 then (zun, (z1v p).2) else z6p h (l ++ [(z1v p).1]) r
def z64 (s : List UInt8) : Block × Int :=
 if 4000 < (s.length : Int) then (zun, 2) else
 if (z18 (Go.Lib.cut s [10]).1).2 = true then z6p (z18 (Go.Lib.cut s [10]).1).1 [] (z1y (Go.Lib.cut s [10]).2.1.length (Go.Lib.cut s [10]).2.1) else (zun, 1)
theorem zht (p : List UInt8) : ∀ s : List UInt8, -1 ≤ Go.Lib.index s p ∧ (p ≠ [] → Go.Lib.index s p < (s.length : Int) ∨ Go.Lib.index s p = -1)
 | [] => by
  unfold Go.Lib.index
  split
  ·rename_i h
   refine ⟨by omega, fun hp => ?_⟩
   cases p with
   | nil => exact absurd rfl hp
   | cons a p => cases h
  ·exact ⟨by omega, fun _ => .inr rfl⟩
 | b :: s => by
  obtain ⟨h1, h2⟩ := zht p s
  unfold Go.Lib.index
  split
  ·exact ⟨by omega, fun _ => .inl (by simp only [List.length_cons]; omega)⟩
  ·split
   ·exact ⟨by omega, fun _ => .inr rfl⟩
   ·refine ⟨by omega, fun hp => ?_⟩
    rename_i hne
    have hne' : Go.Lib.index s p ≠ -1 := by simpa using hne
    rcases h2 hp with h | h
    ·exact .inl (by simp only [List.length_cons]; omega)
    ·exact absurd h hne'
theorem z04r {s : List UInt8} (h : s ≠ []) (h0 : 0 ≤ z32 s) : z32 s + 1 < (s.length : Int) := by
 unfold z32 at *
 have := (zht z1k (s.drop 1)).2 (by decide)
 rw [List.length_drop] at this
 have : 0 < s.length := List.length_pos_iff.2 h
 omega
theorem zup {s : List UInt8} (h : s ≠ []) : z56 s ≠ [] := by
 unfold z56
 split
 ·rename_i h0
  intro e
  have := congrArg List.length e
  rw [List.length_take, List.length_nil] at this
  have : 0 < s.length := List.length_pos_iff.2 h
  omega
 ·exact h
theorem znk (s : List UInt8) : s = z56 s ++ s.drop (z56 s).length := by
 unfold z56
 split
 ·rw [List.length_take]
  rcases Nat.le_total (z32 s + 2).toNat s.length with h | h
  ·rw [Nat.min_eq_left h, List.take_append_drop]
  ·rw [Nat.min_eq_right h, List.take_of_length_le h]; simp
 ·simp
theorem zji : ∀ (f : Nat) (s : List UInt8), s.length ≤ f → (z1y f s).flatten = s ∧ (z1y f s).length ≤ s.length ∧ ∀ p ∈ z1y f s, p ≠ []
 | 0, s, h => by
  obtain rfl : s = [] := List.eq_nil_of_length_eq_zero (by omega)
  simp [z1y]
 | f + 1, s, h => by
  unfold z1y
  by_cases hs : s = []
  ·subst hs; simp
  ·rw [if_neg hs]
   have hp := zup hs
   have hpl : 0 < (z56 s).length := List.length_pos_iff.2 hp
   have he := znk s
   have hl := congrArg List.length he
   rw [List.length_append] at hl
   obtain ⟨i1, i2, i3⟩ := zji f (s.drop (z56 s).length) (by omega)
   refine ⟨by rw [List.flatten_cons, i1, ← he], by simp only [List.length_cons]; omega, fun p hm => ?_⟩
   rcases List.mem_cons.1 hm with rfl | hm
   ·exact hp
   ·exact i3 p hm
theorem z07n {b : UInt8} (hb : b ≠ 10) (s : List UInt8) : Go.Lib.index (b :: s) z1k = if Go.Lib.index s z1k = -1 then -1 else Go.Lib.index s z1k + 1 := by
 rw [Go.Lib.index]
 have hp : List.isPrefixOf z1k (b :: s) = false := by
  simp only [z1k, List.isPrefixOf, Bool.and_eq_false_imp, beq_iff_eq]
  intro h; exact absurd h.symm hb
 rw [hp]
 simp
theorem zax : ∀ (x s : List UInt8), (∀ b ∈ x, b ≠ 10) → Go.Lib.index (x ++ s) z1k = if Go.Lib.index s z1k = -1 then -1 else (x.length : Int) + Go.Lib.index s z1k
 | [], s, _ => by
  simp only [List.nil_append, List.length_nil]
  split
  ·assumption
  ·simp
 | b :: x, s, h => by
  have ih := zax x s fun y hy => h y (List.mem_cons_of_mem _ hy)
  have h1 := (zht z1k s).1
  rw [List.cons_append, z07n (h b (by simp)), ih]
  simp only [List.length_cons]
  by_cases hi : Go.Lib.index s z1k = -1
  ·rw [if_pos hi, if_pos hi]; rfl
  ·rw [if_neg hi, if_neg hi, if_neg (by omega)]; omega
theorem z04s {s : List UInt8} (h : List.isPrefixOf tTx s = false) : Go.Lib.index (10 :: s) z1k = if Go.Lib.index s z1k = -1 then -1 else Go.Lib.index s z1k + 1 := by
 rw [Go.Lib.index]
 have hp : List.isPrefixOf z1k (10 :: s) = false := by
  have : List.isPrefixOf z1k (10 :: s) = List.isPrefixOf tTx s := by simp [z1k, tTx, List.isPrefixOf]
  rw [this, h]
 rw [hp]
 simp
theorem z0a6 (s : List UInt8) : Go.Lib.index (10 :: (tTx ++ s)) z1k = 0 := by
 rw [Go.Lib.index]
 have hp : List.isPrefixOf z1k (10 :: (tTx ++ s)) = true := by
  rw [List.isPrefixOf_iff_prefix]
  exact List.prefix_append z1k s
 rw [hp]
 rfl
structure PlainL (l : List UInt8) : Prop where
 ne : ∀ b ∈ l, b ≠ 10
 no : ∀ s, List.isPrefixOf tTx (l ++ s) = false
theorem zuq : ∀ (ls : List (List UInt8)) (x : List UInt8), (∀ l ∈ ls, PlainL l) → (∀ b ∈ x, b ≠ 10) → Go.Lib.index (x ++ 10 :: ls.flatMap (· ++ [10])) z1k = -1
 | [], x, _, hx => by
  rw [zax _ _ hx]
  have : Go.Lib.index (10 :: ([] : List (List UInt8)).flatMap (· ++ [10])) z1k = -1 := by decide
  rw [this, if_pos rfl]
 | l :: ls, x, hl, hx => by
  have h1 := hl l (by simp)
  have ih := zuq ls l (fun y hy => hl y (List.mem_cons_of_mem _ hy)) h1.ne
  rw [zax _ _ hx]
  have e : (l :: ls).flatMap (· ++ [10]) = l ++ 10 :: ls.flatMap (· ++ [10]) := by simp
  rw [e, z04s (h1.no _), ih, if_pos rfl, if_pos rfl]
theorem zur (m : List UInt8) : ∀ (ls : List (List UInt8)) (x : List UInt8), (∀ l ∈ ls, PlainL l) → (∀ b ∈ x, b ≠ 10) → Go.Lib.index (x ++ 10 :: (ls.flatMap (· ++ [10]) ++ (tTx ++ m))) z1k = (x.length : Int) + (ls.flatMap (· ++ [10])).length
 | [], x, _, hx => by
  rw [zax _ _ hx]
  simp only [List.flatMap_nil, List.nil_append]
  rw [z0a6]
  simp
 | l :: ls, x, hl, hx => by
  have h1 := hl l (by simp)
  have ih := zur m ls l (fun y hy => hl y (List.mem_cons_of_mem _ hy)) h1.ne
  rw [zax _ _ hx]
  have e : (l :: ls).flatMap (· ++ [10]) ++ (tTx ++ m) = l ++ 10 :: (ls.flatMap (· ++ [10]) ++ (tTx ++ m)) := by simp
  rw [e, z04s (by have := h1.no (10 :: (ls.flatMap (· ++ [10]) ++ (tTx ++ m))); exact this), ih, if_neg (by omega), if_neg (by omega)]
  simp only [List.flatMap_cons, List.length_append, List.length_cons, List.length_nil]
  omega
theorem z04t (x : In) : PlainL (inL x) := ⟨zpw x, fun s => by simp [inL, z05, tIn, tTx, List.isPrefixOf]⟩
theorem z022 (x : Out) : PlainL (z6z x) := ⟨zmm x, fun s => by simp [z6z, z05, z59, tTx, List.isPrefixOf]⟩
theorem zh6 {t : Tx} (h : zl t = 0) : ∃ ls : List (List UInt8), (∀ l ∈ ls, PlainL l) ∧ z0e t = 116 :: ([120, 32] ++ itoa t.height) ++ 10 :: ls.flatMap (· ++ [10]) := by
 have ok := z2j h
 refine ⟨t.ins.map inL ++ t.outs.map z6z, fun l hl => ?_, ?_⟩
 ·rcases List.mem_append.1 hl with hl | hl
  ·obtain ⟨x, -, rfl⟩ := List.mem_map.1 hl; exact z04t x
  ·obtain ⟨x, -, rfl⟩ := List.mem_map.1 hl; exact z022 x
 ·have e1 : t.ins.flatMap z3t = (t.ins.map inL).flatMap (· ++ [10]) := by
   rw [List.flatMap_map]
   simp only [List.flatMap_def]
   congr 1
   exact List.map_congr_left fun x hx => zml (zcz (zae ok.insOk x hx)).2.2.2.2
  have e2 : t.outs.flatMap z38 = (t.outs.map z6z).flatMap (· ++ [10]) := by
   rw [List.flatMap_map]
   simp only [List.flatMap_def]
   congr 1
   exact List.map_congr_left fun x hx => zi7 (ok.good x hx).2.2
  unfold z0e z3p
  rw [e1, e2, List.flatMap_append]
  simp
theorem z07o {t : Tx} (h : zl t = 0) {r : List Tx} (hr : ∀ u ∈ r, zl u = 0) : z56 (z0e t ++ r.flatMap z0e) = z0e t := by
 obtain ⟨ls, hls, e⟩ := zh6 h
 have hx : ∀ b ∈ ([120, 32] ++ itoa t.height : List UInt8), b ≠ 10 := by
  intro b hb
  simp only [List.cons_append, List.nil_append, List.mem_cons] at hb
  rcases hb with rfl | rfl | hb
  ·decide
  ·decide
  ·exact (z36 _ b hb).2.2
 cases r with
 | nil =>
  have hk : z32 (z0e t ++ ([] : List Tx).flatMap z0e) = -1 := by
   unfold z32
   rw [e]
   simp only [List.flatMap_nil, List.append_nil, List.cons_append, List.drop_succ_cons, List.drop_zero]
   exact zuq ls _ hls hx
  unfold z56
  rw [hk, if_neg (by omega)]
  simp
 | cons u r =>
  obtain ⟨ls2, -, e2⟩ := zh6 (hr u (by simp))
  have e3 : (u :: r).flatMap z0e = tTx ++ (itoa u.height ++ 10 :: ls2.flatMap (· ++ [10]) ++ r.flatMap z0e) := by
   rw [List.flatMap_cons, e2]
   simp [tTx]
  rw [e3]
  have hk : z32 (z0e t ++ (tTx ++ (itoa u.height ++ 10 :: ls2.flatMap (· ++ [10]) ++ r.flatMap z0e))) = (([120, 32] ++ itoa t.height : List UInt8).length : Int) + (ls.flatMap (· ++ [10])).length := by
   unfold z32
   rw [e]
   have := zur (itoa u.height ++ 10 :: ls2.flatMap (· ++ [10]) ++ r.flatMap z0e) ls _ hls hx
   rw [← this]
   simp
  unfold z56
  rw [hk, if_pos (by omega)]
  have hl : (z0e t).length = ((([120, 32] ++ itoa t.height : List UInt8).length : Int) + (ls.flatMap (· ++ [10])).length + 2).toNat := by
   rw [e]
   simp only [List.length_append, List.length_cons]
   omega
  rw [← hl, List.take_left']
  rfl
theorem znl {t : Tx} : z0e t ≠ [] := by simp [z0e, z3p]
theorem zjj : ∀ (r : List Tx) (f : Nat), (∀ u ∈ r, zl u = 0) → (r.flatMap z0e).length ≤ f → z1y f (r.flatMap z0e) = r.map z0e
 | [], f, _, _ => by cases f <;> simp [z1y]
 | t :: r, f, h, hf => by
  have ht := h t (by simp)
  have hr := fun u hu => h u (List.mem_cons_of_mem _ hu)
  have hl : 0 < (z0e t).length := List.length_pos_iff.2 znl
  rw [List.flatMap_cons] at hf ⊢
  rw [List.length_append] at hf
  cases f with
  | zero => omega
  | succ f =>
   unfold z1y
   rw [if_neg (fun e => znl (List.append_eq_nil_iff.1 e).1), z07o ht hr, List.drop_left', zjj r f hr (by omega)]
   ·rfl
   ·rfl
theorem zjk (h : z9i) : ∀ (r l : List Tx), (∀ u ∈ r, zl u = 0) → z6p h l (r.map z0e) = zuo h (l ++ r)
 | [], l, _ => by simp [z6p]
 | t :: r, l, hr => by
  have ht := z00q (hr t (by simp))
  rw [List.map_cons, z6p, ht]
  simp only
  rw [if_neg (fun h => h rfl), zjk h r _ fun u hu => hr u (List.mem_cons_of_mem _ hu)]
  simp
theorem zbl {n : Int} (h0 : -9223372036854775808 ≤ n) (h1 : n ≤ 9223372036854775807) : z2v (itoa n) = (n, true) := by
 have h := zl5 (itoa n)
 rw [zd0 h0 h1] at h
 by_cases hb : (z2v (itoa n)).2 = true
 ·rw [if_pos hb] at h
  injection h with h
  exact Prod.ext h.symm hb
 ·rw [if_neg hb] at h; cases h
theorem z07p (b : Block) : z1l b = z05 32 [zaw, itoa b.parent, itoa b.height, itoa b.work, itoa b.nonce] ++ 10 :: b.txs.flatMap z0e := by
 unfold z1l z4i
 simp [z05, zaw]
theorem zyi (b : Block) : ∀ x ∈ z05 32 [zaw, itoa b.parent, itoa b.height, itoa b.work, itoa b.nonce], x ≠ 10 := by
 intro x hx
 simp only [z05, zaw, List.mem_append, List.mem_cons, List.not_mem_nil, or_false] at hx
 rcases hx with (rfl | rfl | rfl | rfl | rfl) | rfl | hx | rfl | hx | rfl | hx | rfl | hx
 all_goals first | decide | exact (z36 _ x hx).2.2
theorem z04u (b : Block) : zy 32 (z05 32 [zaw, itoa b.parent, itoa b.height, itoa b.work, itoa b.nonce]) = [zaw, itoa b.parent, itoa b.height, itoa b.work, itoa b.nonce] := z73 32 _ (by simp) fun y hy x hx => by
 simp only [List.mem_cons, List.not_mem_nil, or_false] at hy
 rcases hy with rfl | rfl | rfl | rfl | rfl
 ·simp only [zaw, List.mem_cons, List.not_mem_nil, or_false] at hx
  rcases hx with rfl | rfl | rfl | rfl | rfl <;> decide
 all_goals exact (z36 _ x hx).1
theorem zyj {b : Block} (h : zp b = 0) (hl : (z1l b).length ≤ 4000) : z64 (z1l b) = (b, 0) := by
 have ok := z2k h
 have hr := ok.range
 unfold z3z at hr
 have hc : Go.Lib.cut (z1l b) [10] = (z05 32 [zaw, itoa b.parent, itoa b.height, itoa b.work, itoa b.nonce], b.txs.flatMap z0e, true) := by
  rw [z07p]; exact zhh (zyi b)
 have hn : z18 (z05 32 [zaw, itoa b.parent, itoa b.height, itoa b.work, itoa b.nonce]) = ((b.parent, b.height, b.work, b.nonce), true) := by
  unfold z18
  rw [z04u]
  rw [if_neg (by simp), if_neg (by simp)]
  simp only [List.drop_succ_cons, List.drop_zero, ze1]
  rw [zbl (by omega) (by omega), zbl (by omega) (by omega), zbl (by omega) (by omega), zbl (by omega) (by omega)]
  rfl
 unfold z64
 rw [if_neg (by omega), hc]
 simp only
 rw [hn, if_pos rfl, zjj _ _ ok.each (Nat.le_refl _), zjk _ _ _ ok.each]
 unfold zuo
 simp only [List.nil_append]
 rw [if_neg (fun k => k h)]
end
section
open Go.RowKit
def zl8 : List CF → List Dt → Prop
 | .scal :: fs, d :: ds => d.scal = true ∧ zl8 fs ds
 | _ :: fs, _ :: ds => zl8 fs ds
 | _, _ => True
theorem zl9 : ∀ {fs : List CF} {ds : List Dt}, zl8 fs ds → ∀ (j : Nat) (d : Dt), fs[j]? = some .scal → ds[j]? = some d → d.scal = true
 | [], _, _, j, d, hf, _ => by cases hf
 | _ :: _, [], _, j, d, _, hd => by cases hd
 | c :: fs, x :: ds, h, j, d, hf, hd => by
  cases j with
  | zero =>
   simp only [List.getElem?_cons_zero, Option.some.injEq] at hf hd
   subst hf; subst hd
   exact h.1
  | succ j =>
   have h' : zl8 fs ds := by
    cases c with
    | scal => exact h.2
    | pure => exact h
    | fresh e sz => exact h
   exact zl9 h' j d (by simpa using hf) (by simpa using hd)
theorem z96 {s : Sig} {rs : List Dt} (h : zl8 (zk s) rs) : z4n s rs := fun i d h1 h2 => zl9 h i d h1 h2
def zla : List CF → Bool
 | [] => true
 | .fresh _ _ :: _ => false
 | _ :: fs => zla fs
theorem zc4 : ∀ {fs : List CF}, zla fs = true → ∀ c ∈ fs, c = .scal ∨ c = .pure
 | [], _, c, h => by cases h
 | x :: fs, h, c, hc => by
  cases x with
  | scal =>
   rcases List.mem_cons.1 hc with rfl | hc
   ·exact .inl rfl
   ·exact zc4 (fs := fs) h c hc
  | pure =>
   rcases List.mem_cons.1 hc with rfl | hc
   ·exact .inr rfl
   ·exact zc4 (fs := fs) h c hc
  | fresh e sz => cases h
section
variable {W W' : World} {F F' : Nat → Prop} {pk : List PK} {b : Bool}
theorem resP {s : Sig} {rs : List Dt} {v : Value} {us : List Value} (hv : zkf s.res v us) (hc : zla (zk s) = true) (hs : zl8 (zk s) rs) (hr : Reps W' F' rs us) (hl : rs.length = (zk s).length) (hF' : ∀ b, F' b → F b ∨ (W.heap.size ≤ b ∧ b < W'.heap.size)) : ∃ us F', ResR W F W' s rs v us F' :=
 ⟨us, F', zdf hv (zc4 hc) (zl9 hs) hl hr hF'⟩
end
end
section
open Go.RowKit
end
section
open Go.RowKit
set_option maxRecDepth 100000
set_option maxHeartbeats 4000000
theorem znm : ∀ l s : List (List UInt8), Er (z8x l s)
 | [], _ => z0r _ rfl
 | x :: l, s => z10 (z0r _ rfl) (z10 (z0r _ rfl) (znm l _))
theorem z0a7 (k : Book) : Er (z0v k) := z10 (z0r _ rfl) (znm _ _)
theorem z07s (t : List (List UInt8)) (s : List UInt8) : Er (z4g t s) := z10 (z0r _ rfl) (z10 (z0r _ rfl) (z0r _ rfl))
theorem zut : ∀ (l t : List (List UInt8)) (o : List Int), Er (z5r l t o).2.2
 | [], t, o => z0r _ rfl
 | s :: l, t, o => by
  rw [z5r]
  split
  ·exact z0r _ rfl
  ·split
   ·exact z07s _ _
   ·exact zut l _ _
theorem z026 (k : Book) (l : List (List UInt8)) : Er (z0p k l).2.2 := by
 unfold z0p
 split
 ·exact z0a7 k
 ·exact zut _ _ _
theorem znn {n : Int} (h : 0 ≤ n ∧ n ≤ 1000) : I64 n := ⟨by have := h.1; omega, by have := h.2; omega⟩
noncomputable def zuu : zd := spD (fun _ : Book => True) fun k => z0v k
theorem z0cc {W W' : World} {F : Nat → Prop} : ∀ b, Mid W W' b → F b ∨ (W.heap.size ≤ b ∧ b < W'.heap.size) := fun b h => .inr h
noncomputable def z84 : zd := spD (fun x : Book × List (List UInt8) => x.2.length ≤ 1000000) fun x => z0p x.1 x.2
theorem zpa (k : Book) (l : List (List UInt8)) (h : l.length ≤ 1000000) : z84 [.l 1 (k.texts.map z24), .l 1 (l.map z24)] = some [.l 1 ((z0p k l).1.map z24), .l 1 ((z0p k l).2.1.map z15), I (z0p k l).2.2] := zm (p := fun x : Book × List (List UInt8) => x.2.length ≤ 1000000) (f := fun x : Book × List (List UInt8) => z0p x.1 x.2) (k, l) h
theorem z04x : Meets Tryz.prog z84 49 ⟨[.agg 1, .one], [(true, [.pure]), (false, [.pure]), (false, [.scal])], false⟩ :=
 z2f rfl (z22 (fn := Tryz.f49) (by kernel_rfl) (by kernel_rfl) (by kernel_rfl)) fun x hx W F us hF h => by
  obtain ⟨k, l⟩ := x
  obtain ⟨cs, us, rfl, h1, h⟩ := z09b (d1 := z9s k) (d2 := Enc.e l) h rfl
  obtain ⟨v, us, rfl, h2, h⟩ := z0h h
  obtain rfl := z1m h
  obtain ⟨A, n, c, rfl, hl⟩ := z5w zki h2
  have := hl.1
  simp only at hx
  refine (z08t k cs l A n c W F (she_book.of h1) hl hF.1 (by omega)).mono ?_
  rintro e w' ⟨A, n, c, A', n', c', rfl, hr, hr', hb⟩
  refine ⟨_, rfl, hb, ?_⟩
  exact resP (us := [.slice A n c, .slice A' n' c', .int .i64 (z0p k l).2.2]) (F' := Mid W w') ⟨[.agg #[.slice A n c], .slice A' n' c', .int .i64 (z0p k l).2.2], rfl, .agg #[.slice A n c], _, [.slice A n c], _, rfl, rfl, ⟨rfl, rfl⟩, .slice A' n' c', _, [.slice A' n' c'], _, rfl, rfl, ⟨rfl, rfl⟩, .int .i64 (z0p k l).2.2, [], [.int .i64 (z0p k l).2.2], [], rfl, rfl, ⟨rfl, rfl⟩, rfl, rfl⟩ rfl ⟨rfl, trivial⟩ ⟨zci zki hr, zci z2z hr', .i _ _ (wrap_i64 (z026 k l).i64), trivial⟩ rfl z0cc
noncomputable def z6q : zd := spD (fun _ : Block => True) fun k => zp k
theorem zlb (b : Block) : z6q [I b.parent, I b.height, I b.work, I b.nonce, .l 3 (b.txs.map eTx)] = some [I (zp b)] := zm (f := fun k : Block => zp k) b trivial
theorem z027 : Meets Tryz.prog z6q 48 ⟨[.agg 5], [(false, [.scal])], true⟩ :=
 zj8 rfl (z22 (fn := Tryz.f48) (by kernel_rfl) (by kernel_rfl) (by kernel_rfl)) fun k _ W F us hF h => by
  obtain ⟨cs, rfl, hr⟩ := zdc h
  exact ⟨(z049 k).i64, zcb k cs W F (she_block.of hr) hF.1⟩
theorem zno (n : Int) : 0 ≤ z0w n ∧ z0w n ≤ 1000 := by
  unfold z0w
  split
  ·exact ⟨by decide, by decide⟩
  ·rename_i h
   have h1 : (0 : Int) ≤ 2 ^ (min ((n - 1) / 8) 30).toNat := Int.pow_nonneg (by decide)
   have h2 := Int.ediv_nonneg (show (0 : Int) ≤ 64 by decide) h1
   have h3 := Int.ediv_le_self (2 ^ (min ((n - 1) / 8) 30).toNat) (show (0 : Int) ≤ 64 by decide)
   exact ⟨h2, by omega⟩
theorem znp (n : Int) : I64 (z0w n) ∧ I64 (z2x n) := by
 have h1 := zno n
 have h2 : 0 ≤ z2x n ∧ z2x n ≤ 1000 := by
  unfold z2x
  split <;> exact ⟨by decide, by decide⟩
 exact ⟨znn h1, znn h2⟩
noncomputable def z2g : zd := spD (fun _ : Int => True) fun n => (z0w n, z2x n)
theorem zaz (n : Int) : z2g [I n] = some [I (z0w n), I (z2x n)] := zm (f := fun n : Int => (z0w n, z2x n)) n trivial
theorem z0a8 (n : Int) (w : World) : Calls Tryz.prog 36 #[.int .i64 n] w fun e w' => e = .returned (.tuple #[.int .i64 (z0w n), .int .i64 (z2x n)]) ∧ w = w' := by
 by_cases h : n < 1 ∨ 1000 < n
 ·go_enter Tryz.func36, Tryz.ntmps36
  go_wp2
  all_goals (go_ret2; refine ⟨zac ?_ ?_, rfl⟩)
  all_goals simp [z0w, z2x, h]
 ·have h1 : 1 ≤ n := by omega
  have h2 : n ≤ 1000 := by omega
  go_enter Tryz.func36, Tryz.ntmps36
  go_wp2
  all_goals (go_ret2; refine ⟨zac ?_ ?_, rfl⟩)
  all_goals first
   | (simp only [z0w]; rw [if_neg (by omega), Int.min_eq_right (by omega)]; try decide)
   | (simp only [z0w]; rw [if_neg (by omega), Int.min_eq_left (by omega)])
   | (simp only [z0w]; rw [if_neg (by omega)])
   | (simp [z2x]; omega)
theorem zfw : Meets Tryz.prog z2g 36 ⟨[.one], [(false, [.scal]), (false, [.scal])], true⟩ :=
 z2f rfl (z22 (fn := Tryz.f36) (by kernel_rfl) (by kernel_rfl) (by kernel_rfl)) fun n _ W F us hF h => by
  obtain ⟨v, us, rfl, h2, h⟩ := z0h (d := I n) h
  obtain rfl := z1m h
  obtain ⟨rfl, hn⟩ := zkt h2
  refine (z0a8 n W).mono ?_
  rintro e w' ⟨rfl, rfl⟩
  exact ⟨_, rfl, Below.refl _ _, z7h rfl rfl (.i _ _ (wrap_i64 (znp n).1)) (.i _ _ (wrap_i64 (znp n).2))⟩
noncomputable def z04y : zd := spD (fun _ : List Int × Int => True) fun x => idx x.1 x.2
noncomputable def z07t : zd := spD (fun l : List Int => l.length ≤ 1000000) fun l => l
noncomputable def zyl : zd := spD (fun _ : Tree × Int => True) fun x => z025 x.1 x.2
noncomputable def zuv : zd := spD (fun _ : Tree × Int => True) fun x => (zfv x.1 x.2, z00b x.1 x.2)
noncomputable def z04z : zd := spD (fun _ : List Int => True) fun l => l.reverse
end
section
open Go.RowKit
open Go.Lib (itoa)
set_option maxRecDepth 100000
set_option maxHeartbeats 4000000
def zgm (b : Block) : List (List UInt8) := b.txs.map fun t => (z0m t).1
def ze2 (k : Book) (s : List UInt8) (l : List (List UInt8)) : List (List UInt8) × Int × List Int × Int :=
 if (z0p k (l ++ [s])).2.2 ≠ 0 then ([], 0, [], (z0p k (l ++ [s])).2.2) else
 ((z0p k (l ++ [s])).1, ((z0p k (l ++ [s])).2.1).getD l.length 0, ((z0p k (l ++ [s])).2.1).take l.length, 0)
def z0d (k : Book) (b : Block) : List (List UInt8) × Int × List Int × Int :=
 if (z06 b).2 ≠ 0 then ([], 0, [], (z06 b).2) else ze2 k (z06 b).1 (zgm b)
theorem znq : ∀ (l t : List (List UInt8)) (o : List Int), (z5r l t o).2.2 = 0 → (z5r l t o).2.1.length = o.length + l.length
 | [], t, o, _ => by simp [z5r]
 | s :: l, t, o, h => by
  rw [z5r] at h ⊢
  split at h
  ·cases h
  rename_i h1
  rw [if_neg h1]
  split at h
  ·rename_i h2; exact absurd h h2
  rename_i h2
  rw [if_neg h2]
  rw [znq l _ _ h]
  simp; omega
theorem zh7 {k : Book} {l : List (List UInt8)} (h : (z0p k l).2.2 = 0) : (z0p k l).2.1.length = l.length := by
 unfold z0p at h ⊢
 split at h
 ·rename_i h1; exact absurd h h1
 rename_i h1
 rw [if_neg h1]
 simpa using znq l k.texts [] h
theorem zeh {b : Block} (h : (z06 b).2 = 0) : zp b = 0 := by
 unfold z06 at h
 by_cases hb : zp b = 0
 ·exact hb
 ·rw [if_pos hb] at h; exact absurd h hb
attribute [local irreducible] z0o spD z0p z06 z0m
attribute [local irreducible] den denX z0y z1h
noncomputable def z26 : zd := spD (fun _ : Book × Block => True) fun x => z0d x.1 x.2
theorem z8j (k : Book) (b : Block) : z26 [.l 1 (k.texts.map z24), I b.parent, I b.height, I b.work, I b.nonce, .l 3 (b.txs.map eTx)] = some [.l 1 ((z0d k b).1.map z24), I (z0d k b).2.1, .l 1 ((z0d k b).2.2.1.map z15), I (z0d k b).2.2.2] := zm (f := fun x : Book × Block => z0d x.1 x.2) (k, b) trivial
theorem z85 (b : Block) : z1b [I b.parent, I b.height, I b.work, I b.nonce, .l 3 (b.txs.map eTx)] = some [.s (z06 b).1, I (z06 b).2] := zl1 b
theorem zlc (t : Tx) : z4l [I t.height, .l 3 (t.ins.map eIn), .l 2 (t.outs.map z27)] = some [.s (z0m t).1, I (z0m t).2] := zox t
def zuw : T :=
 .lets [.call 62 [.v 13, .v 14, .v 15] 0, .call 62 [.v 13, .v 14, .v 15] 1] [] (.lets [.mk 1 [[.v 16]]] [] (.lets [.app 1 (.v 10) (.v 18)] [] (.lets [.bin .add (.v 11) (.c (.i .i64
 1))] [] (.again 0 [.v 19, .v 20]))))
def zux : T :=
 .lets [.len (.v 10)] [] (.lets [.sub 1 (.v 16) none (some (.v 21)), .sub 1 (.v 16) (some (.v 21)) (some (.v 22))] [] (.ret [.v 15, .v 20, .v 23, .c (.i .i64 0)]))
def zuy : T :=
 .ite (.v 18) (.ret [.c (.nil 1), .c (.i .i64 0), .c (.nil 1), .v 17]) (.lets [.len (.v 10)] [] (.lets [] [.inr 1 (.v 16) (.v 19)] (.lets [.idx (.v 16) (.v 19) 0] [] (.lets [.len (.v
 10)] [] zux))))
def zuz : T :=
 .lets [.app 1 (.v 10) (.v 13)] [] (.lets [.call 70 [.v 0, .v 14] 0, .call 70 [.v 0, .v 14] 1, .call 70 [.v 0, .v 14] 2] [] (.lets [.bin .neq (.v 17) (.c (.i .i64 0))] []
 zuy))
def zv0 : T :=
 .ite (.v 12) (.lets [] [.inr 3 (.v 5) (.v 11)] (.lets [.idx (.v 5) (.v 11) 0, .idx (.v 5) (.v 11) 1, .idx (.v 5) (.v 11) 2] [] zuw)) (.lets [.mk 1 [[.v 6]]] []
 zuz)
def zv1 : T :=
 .ite (.v 8) (.ret [.c (.nil 1), .c (.i .i64 0), .c (.nil 1), .v 7]) (.lets [.len (.v 5)] [] (.loop [.c (.nil 1), .c (.i .i64 0)] (.lets [.bin .lss (.v 11) (.v 9)] [] zv0)))
def ze3 : T :=
 .lets [.call 63 [.v 1, .v 2, .v 3, .v 4, .v 5] 0, .call 63 [.v 1, .v 2, .v 3, .v 4, .v 5] 1] [] (.lets [.bin .neq (.v 7) (.c (.i .i64 0))] [] zv1)
attribute [local irreducible] z1b z84 z4l
theorem ze4 : Meets Tryz.prog z26 15 ⟨[.agg 1, .agg 5], [(true, [.pure]), (false, [.scal]), (false, [.pure]), (false, [.scal])], false⟩ := by
 refine zo (sp := (z0i [(62, z4l), (63, z1b), (70, z84)])) (sigs := z0q) (cut := []) (hints := [⟨6, [.r 9 9 1, .t 27]⟩]) (fn := Tryz.f15) (t := ze3) (by kernel_rfl) (by kernel_rfl) (by kernel_rfl) ?_ ?_
 ·exact (z07 (L := [(62, z4l), (63, z1b), (70, z84)]) ⟨za rfl z04m, za rfl zdx, za rfl z04x, trivial⟩)
 ·rintro ds rs hok h
  obtain ⟨⟨k, b⟩, -, rfl, rfl⟩ := zq h
  clear h
  refine ⟨⟨100, ?_⟩, z96 ⟨rfl, rfl, trivial⟩⟩
  show den _ _ ze3 [.l 1 (k.texts.map z24), I b.parent, I b.height, I b.work, I b.nonce, .l 3 (b.txs.map eTx)] [] = ret (z0d k b)
  have a1 := z85 b
  unfold ze3 z0d
  have hpz := fun h => (z2k (zeh (b := b) h)).len
  generalize z06 b = pb at *
  obtain ⟨s, e⟩ := pb
  simp only at *
  repeat' (first | refine dq1 ?_ | refine dqc ?_ | refine dqm ?_ | refine dqK rfl (a1) ?_ | exact z4 rfl rfl | ((first | refine tR ?_ ?_ | refine tB ?_ ?_ | refine tC ?_ ?_ | refine tN ?_ ?_ | refine tF ?_ ?_ | refine tG ?_ ?_ | refine tP ?_ ?_ | refine tQ ?_ ?_ | refine tA ?_ ?_ | refine tO ?_ ?_ | refine tU ?_ ?_ | refine tV ?_ ?_) <;> intro h) | refine dqT ?_ | refine dqF ?_ | refine z6 rfl ?_ | refine z5 rfl ?_ | refine z8 ?_ | refine z9 ?_)
  have hlen : b.txs.length ≤ 4 := hpz (by omega)
  (refine z09 (fun (a : List (List UInt8)) k => [.l 1 (a.map z24), I k]) (fun (a : List (List UInt8)) _ (r : List Tx) => ze2 k s (a ++ r.map fun t => (z0m t).1)) (fun a k => a.length = k) [] b.txs ?_ ?_ ?_ ?_ ?_; rfl; exact rfl; omega)
  ·rintro a i x r hx hd hk ha again hag
   have a2 := zlc x
   have e : a ++ ((x :: r).map fun t => (z0m t).1) = (a ++ [(z0m x).1]) ++ r.map fun t => (z0m t).1 := by simp
   rw [e]
   have hag' := hag (a ++ [(z0m x).1]) (by simp; omega)
   generalize z0m x = px at *
   obtain ⟨z, f⟩ := px
   simp only at *
   repeat' (first | refine dq1 ?_ | refine dqc ?_ | refine dqm ?_ | refine dqK rfl (a2) ?_ | refine z7 (z29 rfl rfl (by simp)) ?_ | refine z7 (z4s (x := z) (fun _ => rfl) rfl rfl (by omega)) ?_ | exact z4 rfl rfl | ((first | refine tR ?_ ?_ | refine tB ?_ ?_ | refine tC ?_ ?_ | refine tN ?_ ?_ | refine tF ?_ ?_ | refine tG ?_ ?_ | refine tP ?_ ?_ | refine tQ ?_ ?_ | refine tA ?_ ?_ | refine tO ?_ ?_ | refine tU ?_ ?_ | refine tV ?_ ?_) <;> intro h) | refine dqT ?_ | refine dqF ?_ | refine z6 rfl ?_ | refine z5 rfl ?_ | refine z8 ?_ | refine z9 ?_)
   exact ze rfl rfl hag'
  ·rintro a ha again
   simp only [List.map_nil, List.append_nil]
   have a3 := zpa k (a ++ [s]) (by simp; omega)
   have hl := fun h => zh7 (k := k) (l := a ++ [s]) h
   unfold ze2
   generalize z0p k (a ++ [s]) = q at *
   obtain ⟨tx, ns, e2⟩ := q
   simp only at *
   repeat' (first | refine dq1 ?_ | refine dqc ?_ | refine dqm ?_ | refine dqK rfl (a3) ?_ | refine z7 (z29 rfl rfl (by simp)) ?_ | refine z7 (z4s (x := s) (fun _ => rfl) rfl rfl (by omega)) ?_ | exact z4 rfl rfl | ((first | refine tR ?_ ?_ | refine tB ?_ ?_ | refine tC ?_ ?_ | refine tN ?_ ?_ | refine tF ?_ ?_ | refine tG ?_ ?_ | refine tP ?_ ?_ | refine tQ ?_ ?_ | refine tA ?_ ?_ | refine tO ?_ ?_ | refine tU ?_ ?_ | refine tV ?_ ?_) <;> intro h) | refine dqT ?_ | refine dqF ?_ | refine z6 rfl ?_ | refine z5 rfl ?_ | refine z8 ?_ | refine z9 ?_)
   have hl := hl (by omega)
   simp only [List.length_append, List.length_cons, List.length_nil] at hl
   have hg : ns[((a.length : Int)).toNat]? = some (ns.getD a.length 0) := by
    rw [Int.toNat_natCast, List.getD_eq_getElem?_getD, List.getElem?_eq_getElem (by omega)]
    rfl
   generalize ns.getD a.length 0 = y at *
   have ht : ns.take ((a.length : Int)).toNat = ns.take a.length := by rw [Int.toNat_natCast]
   repeat' (first | refine dq1 ?_ | refine dqc ?_ | refine dqm ?_ | exact z4 rfl rfl | ((first | refine tR ?_ ?_ | refine tB ?_ ?_ | refine tC ?_ ?_ | refine tN ?_ ?_ | refine tF ?_ ?_ | refine tG ?_ ?_ | refine tP ?_ ?_ | refine tQ ?_ ?_ | refine tA ?_ ?_ | refine tO ?_ ?_ | refine tU ?_ ?_ | refine tV ?_ ?_) <;> intro h) | refine dqT ?_ | refine dqF ?_ | refine z6 rfl ?_ | refine z5 rfl ?_ | refine z8 ?_ | refine z9 ?_)
   refine z41 (z01 (z006 rfl rfl (by omega) (by omega) ht) (z01 (zr4 (m := (a.length : Int)) (n := (a.length : Int)) rfl rfl rfl (by omega) (by omega) (by omega)) z5g)) ?_ rfl
   exact z4 rfl rfl
end
section
open Go.RowKit
set_option maxRecDepth 100000
set_option maxHeartbeats 4000000
attribute [local irreducible] z0o spD z1j
def z028 : T :=
 .lets [.call 10 [.v 9] 0] [] (.lets [] [.inr 6 (.v 4) (.v 3)] (.lets [.set (.v 4) (.v 3) 3 [.v 12]] [] (.lets [.bin .add (.v 3) (.c (.i .i64 1))] [] (.again 0 [.v 14, .v 13]))))
def z029 : T :=
 .lets [] [.inr 6 (.v 4) (.v 3)] (.lets [.idx (.v 4) (.v 3) 0, .idx (.v 4) (.v 3) 1, .idx (.v 4) (.v 3) 2, .idx (.v 4) (.v 3) 3, .idx (.v 4) (.v 3) 4, .idx (.v 4) (.v 3) 5] []
 z028)
def zhu : T :=
 .lets [.call 9 [.v 0] 0] [] (.lets [.len (.v 1)] [] (.loop [.c (.i .i64 0), .v 1] (.lets [.bin .lss (.v 3) (.v 2)] [] (.ite (.v 5) z029 (.ret [.v 4])))))
def zym : T :=
 .lets [.idx (.v 0) (.v 5) 0, .idx (.v 0) (.v 5) 1, .idx (.v 0) (.v 5) 2, .idx (.v 0) (.v 5) 3, .idx (.v 0) (.v 5) 4, .idx (.v 0) (.v 5) 5] [] (.lets [.bin .add (.v 4) (.v 9)] []
 (.lets [.bin .add (.v 5) (.c (.i .i64 1))] [] (.again 0 [.v 13, .v 14])))
def zyn : T :=
 .loop [.c (.i .i64 0), .c (.i .i64 0)] (.lets [.bin .lss (.v 5) (.v 3)] [] (.ite (.v 6) (.lets [] [.inr 6 (.v 0) (.v 5)] zym) (.ret [.v 4, .c (.i .i64 0)])))
def zfx : T :=
 .lets [.call 8 [.v 0] 0] [] (.lets [.bin .neq (.v 1) (.c (.i .i64 0))] [] (.ite (.v 2) (.ret [.c (.i .i64 0), .v 1]) (.lets [.len (.v 0)] [] zyn)))
def z050 : T :=
 .lets [.idx (.v 3) (.v 6) 0, .idx (.v 3) (.v 6) 1, .idx (.v 3) (.v 6) 2, .idx (.v 3) (.v 6) 3, .idx (.v 3) (.v 6) 4, .idx (.v 3) (.v 6) 5] [] (.lets [.bin .add (.v 5) (.v 10)] []
 (.lets [.bin .add (.v 6) (.c (.i .i64 1))] [] (.again 0 [.v 14, .v 15])))
def z051 : T :=
 .lets [.idx (.v 2) (.v 10) 0, .idx (.v 2) (.v 10) 1] [] (.lets [.bin .sub (.v 9) (.v 12)] [] (.lets [.bin .add (.v 10) (.c (.i .i64 1))] [] (.again 1 [.v 14, .v 15])))
def z052 : T :=
 .lets [.len (.v 2)] [] (.loop [.v 5, .c (.i .i64 0)] (.lets [.bin .lss (.v 10) (.v 8)] [] (.ite (.v 11) (.lets [] [.inr 2 (.v 2) (.v 10)] z051) (.ret [.v 9]))))
def zld : T :=
 .lets [.len (.v 3)] [] (.loop [.c (.i .i64 0), .c (.i .i64 0)] (.lets [.bin .lss (.v 6) (.v 4)] [] (.ite (.v 7) (.lets [] [.inr 6 (.v 3) (.v 6)] z050) z052)))
def z1g (l : List Coin) : Prop := l.length ≤ 1000000 ∧ ∀ c ∈ l, c.o.lock.length ≤ 8796093022208
theorem CoinsOK.short {l : List Coin} (h : CoinsOK l) : z1g l := ⟨by have := h.len; omega, fun c hc => by have := z7z (z35 (h.good c hc)).2.2.2.2.2.2.2.2; omega⟩
noncomputable def z5q : zd := spD z1g fun l => l
theorem zb0 (l : List Coin) (h : z1g l) : z5q [.l 6 (l.map zg)] = some [.l 6 (l.map zg)] := zm (p := z1g) (f := fun l : List Coin => l) l h
theorem zv2 : Meets Tryz.prog z5q 39 ⟨[.one], [(false, [.fresh 86 6])], false⟩ := by
 refine zo (sp := (z0i [(9, zbh), (10, za7)])) (sigs := z0q) (cut := []) (hints := [⟨3, [.t 9, .o 6]⟩]) (fn := Tryz.f39) (t := zhu) (by kernel_rfl) (by kernel_rfl) (by kernel_rfl) ?_ ?_
 ·exact (z07 (L := [(9, zbh), (10, za7)]) ⟨za rfl z07d, za rfl z04a, trivial⟩)
 ·rintro ds rs - h
  obtain ⟨l, ⟨hl, hk⟩, rfl, rfl⟩ := zq h
  clear h
  refine ⟨⟨l.length + 1, ?_⟩, zx4 (by simp [zk, CF.isScal])⟩
  show den _ _ zhu [.l 6 (l.map zg)] [] = ret l
  unfold zhu
  repeat' (first | refine dq1 ?_ | refine dqc ?_ | refine dqm ?_ | refine dqK rfl (zra _ hl) ?_ | exact z4 rfl rfl | ((first | refine tR ?_ ?_ | refine tB ?_ ?_ | refine tC ?_ ?_ | refine tN ?_ ?_ | refine tF ?_ ?_ | refine tG ?_ ?_ | refine tP ?_ ?_ | refine tQ ?_ ?_ | refine tA ?_ ?_ | refine tO ?_ ?_ | refine tU ?_ ?_ | refine tV ?_ ?_) <;> intro h) | refine dqT ?_ | refine dqF ?_ | refine z6 rfl ?_ | refine z5 rfl ?_ | refine z8 ?_ | refine z9 ?_)
  (refine z09 (fun (_ : Unit) k => [I k, .l 6 (l.map zg)]) (fun _ _ _ => l) (fun _ _ => True) () l ?_ ?_ ?_ ?_ ?_; rfl; exact trivial; first | exact Nat.lt_succ_self _ | omega)
  ·rintro _ k c r hx hd hkl - again hag
   repeat' (first | refine dq1 ?_ | refine dqc ?_ | refine dqm ?_ | refine dqK rfl (zdn _ (hk c (List.mem_of_getElem? hx))) ?_ | exact z4 rfl rfl | ((first | refine tR ?_ ?_ | refine tB ?_ ?_ | refine tC ?_ ?_ | refine tN ?_ ?_ | refine tF ?_ ?_ | refine tG ?_ ?_ | refine tP ?_ ?_ | refine tQ ?_ ?_ | refine tA ?_ ?_ | refine tO ?_ ?_ | refine tU ?_ ?_ | refine tV ?_ ?_) <;> intro h) | refine dqT ?_ | refine dqF ?_ | refine z6 rfl ?_ | refine z5 rfl ?_ | refine z8 ?_ | refine z9 ?_)
   refine z7 (z01m rfl rfl rfl (by omega) (by simp) (by exact hx) rfl) ?_
   repeat' (first | refine dq1 ?_ | refine dqc ?_ | refine dqm ?_ | exact z4 rfl rfl | exact ze rfl rfl (hag () trivial) | exact ze rfl rfl (hag _ trivial) | exact ze rfl rfl (hag _ (by omega)) | exact ze rfl rfl (hag _ (by assumption)) | ((first | refine tR ?_ ?_ | refine tB ?_ ?_ | refine tC ?_ ?_ | refine tN ?_ ?_ | refine tF ?_ ?_ | refine tG ?_ ?_ | refine tP ?_ ?_ | refine tQ ?_ ?_ | refine tA ?_ ?_ | refine tO ?_ ?_ | refine tU ?_ ?_ | refine tV ?_ ?_) <;> intro h) | refine dqT ?_ | refine dqF ?_ | refine z6 rfl ?_ | refine z5 rfl ?_ | refine z8 ?_ | refine z9 ?_)
  ·intro _ _ again
   repeat' (first | refine dq1 ?_ | refine dqc ?_ | refine dqm ?_ | exact z4 rfl rfl | ((first | refine tR ?_ ?_ | refine tB ?_ ?_ | refine tC ?_ ?_ | refine tN ?_ ?_ | refine tF ?_ ?_ | refine tG ?_ ?_ | refine tP ?_ ?_ | refine tQ ?_ ?_ | refine tA ?_ ?_ | refine tO ?_ ?_ | refine tU ?_ ?_ | refine tV ?_ ?_) <;> intro h) | refine dqT ?_ | refine dqF ?_ | refine z6 rfl ?_ | refine z5 rfl ?_ | refine z8 ?_ | refine z9 ?_)
theorem zh8 (l : List Coin) : ∀ s : Int, l.foldl (fun s c => s + c.o.coin) s = s + zb l := by
 induction l with
 | nil => intro s; simp [zb]
 | cons c l ih => intro s; rw [List.foldl_cons, ih, zb]; omega
def z3b (l : List Coin) : Int × Int := if zu l ≠ 0 then (0, zu l) else (l.foldl (fun s c => s + c.o.coin) 0, 0)
noncomputable def z86 : zd := spD (fun _ : List Coin => True) z3b
theorem zei (l : List Coin) : z86 [.l 6 (l.map zg)] = some [I (z3b l).1, I (z3b l).2] := zm (f := z3b) l trivial
theorem z053 : Meets Tryz.prog z86 12 ⟨[.one], [(false, [.scal]), (false, [.scal])], true⟩ := by
 refine zo (sp := (z0i [(8, z1f)])) (sigs := z0q) (cut := []) (hints := [⟨6, [.t 5, .t 15]⟩]) (fn := Tryz.f12) (t := zfx) (by kernel_rfl) (by kernel_rfl) (by kernel_rfl) ?_ ?_
 ·exact (z07 (L := [(8, z1f)]) ⟨za rfl z92, trivial⟩)
 ·rintro ds rs - h
  obtain ⟨l, -, rfl, rfl⟩ := zq h
  clear h
  refine ⟨⟨l.length + 1, ?_⟩, z8i rfl rfl⟩
  show den _ _ zfx [.l 6 (l.map zg)] [] = ret (z3b l)
  unfold zfx z3b
  repeat' (first | refine dq1 ?_ | refine dqc ?_ | refine dqm ?_ | refine dqK rfl (z2e _) ?_ | exact z4 rfl rfl | ((first | refine tR ?_ ?_ | refine tB ?_ ?_ | refine tC ?_ ?_ | refine tN ?_ ?_ | refine tF ?_ ?_ | refine tG ?_ ?_ | refine tP ?_ ?_ | refine tQ ?_ ?_ | refine tA ?_ ?_ | refine tO ?_ ?_ | refine tU ?_ ?_ | refine tV ?_ ?_) <;> intro h) | refine dqT ?_ | refine dqF ?_ | refine z6 rfl ?_ | refine z5 rfl ?_ | refine z8 ?_ | refine z9 ?_)
  have ok := (z0j l).1 (Decidable.not_not.1 h)
  have := ok.len
  (refine z09 (fun (s : Int) k => [I s, I k]) (fun (s : Int) _ (r : List Coin) => (r.foldl (fun s c => s + c.o.coin) s, (0 : Int))) (fun s k => 0 ≤ s ∧ s + zb (l.drop k) = zb l) (0 : Int) l ?_ ?_ ?_ ?_ ?_; rfl; exact ⟨by omega, by simp⟩; first | exact Nat.lt_succ_self _ | omega)
  ·rintro s k c r hx hd hkl ⟨h0, h1⟩ again hag
   have hb := z35 (ok.good c (List.mem_of_getElem? hx))
   have ht := ok.total
   have hr := z5j (l := r) fun x hx => ok.good x (List.mem_of_mem_drop (i := k) (by rw [hd]; exact List.mem_cons_of_mem _ hx))
   have hd1 : l.drop (k + 1) = r := by rw [← List.drop_drop, hd]; rfl
   rw [hd, zb] at h1
   repeat' (first | refine dq1 ?_ | refine dqc ?_ | refine dqm ?_ | exact z4 rfl rfl | ((first | refine tR ?_ ?_ | refine tB ?_ ?_ | refine tC ?_ ?_ | refine tN ?_ ?_ | refine tF ?_ ?_ | refine tG ?_ ?_ | refine tP ?_ ?_ | refine tQ ?_ ?_ | refine tA ?_ ?_ | refine tO ?_ ?_ | refine tU ?_ ?_ | refine tV ?_ ?_) <;> intro h) | refine dqT ?_ | refine dqF ?_ | refine z6 rfl ?_ | refine z5 rfl ?_ | refine z8 ?_ | refine z9 ?_)
   exact ze rfl rfl (hag (s + c.o.coin) ⟨by omega, by rw [hd1]; omega⟩)
  ·rintro s - again
   repeat' (first | refine dq1 ?_ | refine dqc ?_ | refine dqm ?_ | exact z4 rfl rfl | ((first | refine tR ?_ ?_ | refine tB ?_ ?_ | refine tC ?_ ?_ | refine tN ?_ ?_ | refine tF ?_ ?_ | refine tG ?_ ?_ | refine tP ?_ ?_ | refine tQ ?_ ?_ | refine tA ?_ ?_ | refine tO ?_ ?_ | refine tU ?_ ?_ | refine tV ?_ ?_) <;> intro h) | refine dqT ?_ | refine dqF ?_ | refine z6 rfl ?_ | refine z5 rfl ?_ | refine z8 ?_ | refine z9 ?_)
def z23 (t : Tx) (l : List Coin) : Int := t.outs.foldl (fun s o => s - o.coin) (l.foldl (fun s c => s + c.o.coin) 0)
def zcu (x : Tx × List Coin) : Prop := x.2.length ≤ 1000000 ∧ (∀ c ∈ x.2, 0 ≤ c.o.coin ∧ c.o.coin ≤ 1000000000) ∧ x.1.outs.length ≤ 1000000 ∧ ∀ o ∈ x.1.outs, 0 ≤ o.coin ∧ o.coin ≤ 1000000000
noncomputable def z72 : zd := spD zcu fun x => z23 x.1 x.2
theorem zc5 (t : Tx) (l : List Coin) (h : zcu (t, l)) : z72 [I t.height, .l 3 (t.ins.map eIn), .l 2 (t.outs.map z27), .l 6 (l.map zg)] = some [I (z23 t l)] := zm (p := zcu) (f := fun x : Tx × List Coin => z23 x.1 x.2) (t, l) h
theorem z00c : Meets Tryz.prog z72 51 ⟨[.agg 3, .one], [(false, [.scal])], true⟩ := by
 refine zo (sp := (z0i [])) (sigs := z0q) (cut := []) (hints := [⟨3, [.t 5, .t 12]⟩, ⟨8, [.t 5, .t 25]⟩]) (fn := Tryz.f51) (t := zld) (by kernel_rfl) (by kernel_rfl) (by kernel_rfl) ?_ ?_
 ·exact (z07 (L := []) trivial)
 ·rintro ds rs - h
  obtain ⟨⟨t, l⟩, ⟨h1, h2, h3, h4⟩, rfl, rfl⟩ := zq h
  clear h
  simp only at h1 h2 h3 h4
  refine ⟨⟨l.length + t.outs.length + 1, ?_⟩, z0c rfl⟩
  show den _ _ zld [I t.height, .l 3 (t.ins.map eIn), .l 2 (t.outs.map z27), .l 6 (l.map zg)] [] = ret (z23 t l)
  unfold zld z23
  repeat' (first | refine dq1 ?_ | refine dqc ?_ | refine dqm ?_ | exact z4 rfl rfl | ((first | refine tR ?_ ?_ | refine tB ?_ ?_ | refine tC ?_ ?_ | refine tN ?_ ?_ | refine tF ?_ ?_ | refine tG ?_ ?_ | refine tP ?_ ?_ | refine tQ ?_ ?_ | refine tA ?_ ?_ | refine tO ?_ ?_ | refine tU ?_ ?_ | refine tV ?_ ?_) <;> intro h) | refine dqT ?_ | refine dqF ?_ | refine z6 rfl ?_ | refine z5 rfl ?_ | refine z8 ?_ | refine z9 ?_)
  (refine z09 (fun (s : Int) k => [I s, I k]) (fun (s : Int) _ (r : List Coin) => t.outs.foldl (fun s o => s - o.coin) (r.foldl (fun s c => s + c.o.coin) s)) (fun s k => 0 ≤ s ∧ s ≤ k * 1000000000) (0 : Int) l ?_ ?_ ?_ ?_ ?_; rfl; exact ⟨by omega, by omega⟩; first | exact Nat.lt_succ_self _ | omega)
  ·rintro s k c r hx hd hkl ⟨h0, h5⟩ again hag
   have hc := h2 c (List.mem_of_getElem? hx)
   repeat' (first | refine dq1 ?_ | refine dqc ?_ | refine dqm ?_ | exact z4 rfl rfl | ((first | refine tR ?_ ?_ | refine tB ?_ ?_ | refine tC ?_ ?_ | refine tN ?_ ?_ | refine tF ?_ ?_ | refine tG ?_ ?_ | refine tP ?_ ?_ | refine tQ ?_ ?_ | refine tA ?_ ?_ | refine tO ?_ ?_ | refine tU ?_ ?_ | refine tV ?_ ?_) <;> intro h) | refine dqT ?_ | refine dqF ?_ | refine z6 rfl ?_ | refine z5 rfl ?_ | refine z8 ?_ | refine z9 ?_)
   exact ze rfl rfl (hag (s + c.o.coin) ⟨by omega, by omega⟩)
  ·rintro s ⟨h0, h5⟩ again
   repeat' (first | refine dq1 ?_ | refine dqc ?_ | refine dqm ?_ | exact z4 rfl rfl | ((first | refine tR ?_ ?_ | refine tB ?_ ?_ | refine tC ?_ ?_ | refine tN ?_ ?_ | refine tF ?_ ?_ | refine tG ?_ ?_ | refine tP ?_ ?_ | refine tQ ?_ ?_ | refine tA ?_ ?_ | refine tO ?_ ?_ | refine tU ?_ ?_ | refine tV ?_ ?_) <;> intro h) | refine dqT ?_ | refine dqF ?_ | refine z6 rfl ?_ | refine z5 rfl ?_ | refine z8 ?_ | refine z9 ?_)
   (refine z09 (fun (s : Int) k => [I s, I k]) (fun (s : Int) _ (r : List Out) => r.foldl (fun s o => s - o.coin) s) (fun s k => - (k * 1000000000) ≤ s ∧ s ≤ l.length * 1000000000) s t.outs ?_ ?_ ?_ ?_ ?_; rfl; exact ⟨by omega, by omega⟩; first | exact Nat.lt_succ_self _ | omega)
   ·rintro s k c r hx hd hkl ⟨h0, h5⟩ again' hag
    have hc := h4 c (List.mem_of_getElem? hx)
    repeat' (first | refine dq1 ?_ | refine dqc ?_ | refine dqm ?_ | exact z4 rfl rfl | ((first | refine tR ?_ ?_ | refine tB ?_ ?_ | refine tC ?_ ?_ | refine tN ?_ ?_ | refine tF ?_ ?_ | refine tG ?_ ?_ | refine tP ?_ ?_ | refine tQ ?_ ?_ | refine tA ?_ ?_ | refine tO ?_ ?_ | refine tU ?_ ?_ | refine tV ?_ ?_) <;> intro h) | refine dqT ?_ | refine dqF ?_ | refine z6 rfl ?_ | refine z5 rfl ?_ | refine z8 ?_ | refine z9 ?_)
    exact ze rfl rfl (hag (s - c.coin) ⟨by omega, by omega⟩)
   ·rintro s ⟨h0, h5⟩ again'
    repeat' (first | refine dq1 ?_ | refine dqc ?_ | refine dqm ?_ | exact z4 rfl rfl | ((first | refine tR ?_ ?_ | refine tB ?_ ?_ | refine tC ?_ ?_ | refine tN ?_ ?_ | refine tF ?_ ?_ | refine tG ?_ ?_ | refine tP ?_ ?_ | refine tQ ?_ ?_ | refine tA ?_ ?_ | refine tO ?_ ?_ | refine tU ?_ ?_ | refine tV ?_ ?_) <;> intro h) | refine dqT ?_ | refine dqF ?_ | refine z6 rfl ?_ | refine z5 rfl ?_ | refine z8 ?_ | refine z9 ?_)
def z6x : Coin := ⟨⟨0, 0⟩, ⟨0, []⟩, 0, false⟩
def zv3 (l : List Coin) (p : Point) : Coin × Int := if zu l ≠ 0 then (z6x, zu l) else if z1t l p = true then ((l[zh l p]?).getD z6x, 0) else (z6x, 7)
end
section
open Go.RowKit
set_option maxRecDepth 100000
set_option maxHeartbeats 4000000
section
variable {ρ : Type}
def z2w (h : Int) (bad : Int → ρ) (K : List Coin → List Coin → ρ) : List Coin → List Coin → List In → ρ
 | r, s, [] => K r s
 | r, s, x :: xs => if z1t r x.p = true then
   if ((r[zh r x.p]?).getD z6x).reward = true then
    if h < ((r[zh r x.p]?).getD z6x).height + 2 then bad 10
    else if (z3g ((r[zh r x.p]?).getD z6x).o.lock x.key h).1 = true then z2w h bad K (r.take (zh r x.p) ++ r.drop (zh r x.p + 1)) (s ++ [(r[zh r x.p]?).getD z6x]) xs else bad 8
   else if (z3g ((r[zh r x.p]?).getD z6x).o.lock x.key h).1 = true then z2w h bad K (r.take (zh r x.p) ++ r.drop (zh r x.p + 1)) (s ++ [(r[zh r x.p]?).getD z6x]) xs else bad 8
  else bad 7
def z33 (nm h : Int) (rw : Bool) (bad : Int → ρ) (K : List Coin → ρ) : List Coin → Nat → List Out → ρ
 | r, _, [] => K r
 | r, i, o :: os => if z1t r ⟨nm, i⟩ = true then bad 6 else z33 nm h rw bad K (r.take (zh r ⟨nm, i⟩) ++ [⟨⟨nm, i⟩, o, h, rw⟩] ++ r.drop (zh r ⟨nm, i⟩)) (i + 1) os
end
def z3l (e : Int) : List Coin × List Coin × Int := ([], [], e)
def z9j (s r : List Coin) : List Coin × List Coin × Int := if zu r ≠ 0 then z3l (zu r) else (r, s, 0)
def z04 (l : List Coin) (t : Tx) (nm h : Int) : List Coin × List Coin × Int :=
 if zu l ≠ 0 then z3l (zu l) else if zl t ≠ 0 then z3l (zl t) else
 if nm < 1 ∨ 120 < nm ∨ h < 1 ∨ 1000 < h then z3l 3 else
 if (t.ins.length : Int) = 0 then
  if t.height ≠ h then z3l 4 else z2w h z3l (fun r s => z33 nm h (decide ((t.ins.length : Int) = 0)) z3l (z9j s) r 0 t.outs) l [] t.ins
 else z2w h z3l (fun r s => if z23 t s < 0 then z3l 9 else z33 nm h (decide ((t.ins.length : Int) = 0)) z3l (z9j s) r 0 t.outs) l [] t.ins
section
variable {ρ : Type}
def ze5 (nm : Int) (bad : Int → ρ) (K : List Coin → ρ) : List Coin → Nat → List Out → ρ
 | r, _, [] => K r
 | r, i, o :: os => if z1t r ⟨nm, i⟩ = true then (if decide (((r[zh r ⟨nm, i⟩]?).getD z6x).o = o) = true then ze5 nm bad K (r.take (zh r ⟨nm, i⟩) ++ r.drop (zh r ⟨nm, i⟩ + 1)) (i + 1) os else bad 7) else bad 7
def zbn (ins : List In) (bad : Int → ρ) (K : List Coin → ρ) : List Coin → Nat → List Coin → ρ
 | r, _, [] => K r
 | r, i, c :: cs => if z1t r c.p = true then bad 6 else if ((ins[i]?).getD ⟨⟨0, 0⟩, []⟩).p ≠ c.p then bad 6 else zbn ins bad K (r.take (zh r c.p) ++ [c] ++ r.drop (zh r c.p)) (i + 1) cs
end
def zc6 (e : Int) : List Coin × Int := ([], e)
def zle (r : List Coin) : List Coin × Int := if zu r ≠ 0 then zc6 (zu r) else (r, 0)
def z19 (l : List Coin) (t : Tx) (nm : Int) (u : List Coin) : List Coin × Int :=
 if zu l ≠ 0 then zc6 (zu l) else if zl t ≠ 0 then zc6 (zl t) else if (u.length : Int) ≠ t.ins.length then zc6 4 else
  ze5 nm zc6 (fun r => zbn t.ins zc6 zle r 0 u) l 0 t.outs
theorem z65 {r : List Coin} (h : z00 r) (k : Nat) : z00 (r.take k ++ r.drop (k + 1)) := by
 have : (r.take k ++ r.drop (k + 1)) = r.eraseIdx k := (List.eraseIdx_eq_take_drop_succ r k).symm
 rw [this]
 exact h.sublist (List.eraseIdx_sublist r k)
theorem z66 {r : List Coin} (h : z00 r) {c : Coin} (hc : z1t r c.p = false) : z00 (r.take (zh r c.p) ++ [c] ++ r.drop (zh r c.p)) := by
 obtain ⟨i1, i2⟩ := zh1 h c.p
 have hle := zdh r c.p
 have hne : ∀ t (ht : t < r.length), r[t].p ≠ c.p := fun t ht he => by
  have : z1t r c.p = true := List.any_eq_true.2 ⟨_, List.getElem_mem ht, by simpa using he⟩
  rw [this] at hc; cases hc
 unfold z00
 rw [List.append_assoc, List.pairwise_append]
 refine ⟨List.Pairwise.sublist (List.take_sublist _ _) h, ?_, ?_⟩
 ·rw [List.singleton_append, List.pairwise_cons]
  refine ⟨fun d hd => ?_, List.Pairwise.sublist (List.drop_sublist _ _) h⟩
  obtain ⟨t, ht, rfl⟩ := List.getElem_of_mem hd
  rw [List.length_drop] at ht
  rw [List.getElem_drop]
  have := i2 (zh r c.p + t) (by omega) (by omega)
  rcases z003 c.p r[zh r c.p + t].p with h | h | h
  ·exact h
  ·exact absurd h.symm (hne _ (by omega))
  ·exact absurd h this
 ·intro a ha b hb
  obtain ⟨t, ht, rfl⟩ := List.getElem_of_mem ha
  rw [List.length_take] at ht
  rw [List.getElem_take]
  have hat := i1 t (by omega) (by omega)
  rw [List.singleton_append, List.mem_cons] at hb
  rcases hb with rfl | hb
  ·exact hat
  ·obtain ⟨u, hu, rfl⟩ := List.getElem_of_mem hb
   rw [List.length_drop] at hu
   rw [List.getElem_drop]
   have := i2 (zh r c.p + u) (by omega) (by omega)
   rcases z003 r[t].p r[zh r c.p + u].p with h | h | h
   ·exact h
   ·exact absurd (h ▸ hat) this
   ·exact absurd (z7d h hat) this
structure SpI (l : List Coin) (st : List Coin × List Coin) (k : Nat) : Prop where
 sorted : z00 st.1
 len : st.1.length ≤ l.length
 good : ∀ c ∈ st.1, z47 c = 0
 cnt : st.2.length = k
 spent : ∀ c ∈ st.2, z47 c = 0
theorem SpI.cut {l : List Coin} {r s : List Coin} {k : Nat} {c : Coin} {j : Nat} (h : SpI l (r, s) k) (hc : r[j]? = some c) : SpI l (r.take j ++ r.drop (j + 1), s ++ [c]) (k + 1) := by
 refine ⟨z65 h.sorted j, ?_, fun d hd => ?_, ?_, fun d hd => ?_⟩
 ·have := h.len
  simp only [List.length_append, List.length_take, List.length_drop] at this ⊢
  omega
 ·rcases List.mem_append.1 hd with hd | hd
  ·exact h.good d (List.mem_of_mem_take hd)
  ·exact h.good d (List.mem_of_mem_drop hd)
 ·have := h.cnt
  simp only [List.length_append, List.length_singleton] at this ⊢
  omega
 ·rcases List.mem_append.1 hd with hd | hd
  ·exact h.spent d hd
  ·simp only [List.mem_singleton] at hd
   subst hd
   exact h.good d (List.mem_of_getElem? hc)
theorem SpI.fee {l : List Coin} {r s : List Coin} {t : Tx} (h : SpI l (r, s) t.ins.length) (ht : TxOK t) : zcu (t, s) :=
 ⟨by have := h.cnt; have := ht.ins; simp only at *; omega, fun c hc => by have := z35 (h.spent c hc); omega, by have := ht.outs; simp only; omega, fun o ho => by have := ht.good o ho; omega⟩
end
end Go.Proofs.YtnklncinjahckaaGreatDoor
