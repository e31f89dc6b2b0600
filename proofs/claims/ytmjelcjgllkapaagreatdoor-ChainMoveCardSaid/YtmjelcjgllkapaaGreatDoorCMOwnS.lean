/- Own texts, put together by wip/bundle.py: Same, SameTx, SameBlk. -/
import Derived.BigQuiet
import Derived.Test.YtmjelcjgllkapaaGreatDoorCMOwnB
import Derived.Test.YtmjelcjgllkapaaGreatDoorCMOwnR
set_option linter.unusedVariables false
set_option linter.unusedSimpArgs false
set_option maxRecDepth 100000
set_option maxHeartbeats 8000000
namespace Go.Proofs.YtmjelcjgllkapaaGreatDoor
open Go.RowKit


theorem Sep.elemTxR{w0 W:World}{F0:Nat->Prop}{Γ:List Res}(h:Sep w0 F0 Γ W){xs:List Tx}{A:Option Addr}{n c i:Nat}(hm:At Γ (rds xs A n c shTx))(hi:i<n) :
  ∃b off z A1 n1 c1 A2 n2 c2,A=some ⟨b,off,none⟩/\xs[i]?=some z/\Sep w0 F0 (cells b (off+i*3) [.int .i64 z.height,.slice A1 n1 c1,.slice A2 n2 c2]::rep z [.int .i64 z.height,.slice A1 n1 c1,.slice A2 n2 c2] shTx::Γ) W:=by
 obtain⟨b,off,z,cs,e,hz,hS⟩:=h.elem hm hi;obtain⟨A1,n1,c1,A2,n2,c2,rfl,h1,hS'⟩:=hS.open_tx (At.s At.z);rw[show shTx.size=3 from rfl]at hS;exact⟨b,off,z,A1,n1,c1,A2,n2,c2,e,hz,hS⟩
end Go.Proofs.YtmjelcjgllkapaaGreatDoor
