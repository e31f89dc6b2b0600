/- Own texts, put together by wip/bundle.py: RefOps, Point, RefTx. -/
import Derived.BigQuiet
import Derived.Outline
import Derived.Deep.Light
import Derived.Deep.DeepCutAuto
import Derived.Test.YtiblpmghkcfgdaaGreatDoorWBOwnB
set_option linter.unusedVariables false
set_option linter.unusedSimpArgs false
namespace Go.Proofs.YtiblpmghkcfgdaaGreatDoor
section
open Go.RowKit
set_option maxRecDepth 100000
end
section
open Go.RowKit
set_option maxRecDepth 100000
theorem Sep.boxCell {w0 W:World} {F0:Nat→Prop} {Γ:List Res} (h:Sep w0 F0 Γ W) {g t:Nat} {cs:List Value} (hm:At Γ (box g cs t)) (i:Nat) (v:Value) (hv:cs[i]? = some v):W.cell? ⟨g,i,none⟩=some v:=by
 have:=h.boxAt hm i v hv;rwa [zY0s] at this
end
section
open Go.RowKit
set_option maxRecDepth 100000
theorem Sep.elemIn {w0 W:World} {F0:Nat→Prop} {Γ:List Res} (h:Sep w0 F0 Γ W) {xs:List In} {A:Option Addr} {n c i:Nat} (hm:At Γ (rds xs A n c shIn)) (hi:i<n) :
  ∃ b off z A1 n1 c1,A=some ⟨b,off,none⟩∧xs[i]? = some z∧I64 z.p.tx∧I64 z.p.at_∧Sep w0 F0 (cells b (off+i * 3) [.int .i64 z.p.tx,.int .i64 z.p.at_,.slice A1 n1 c1]::rds z.key A1 n1 c1 shOp::Γ) W:=by
 obtain ⟨b,off,z,cs,e,hz,hS⟩:=h.elem hm hi;obtain ⟨A1,n1,c1,rfl,h1,h2,hS⟩:=hS.open_in (At.s At.z);rw [show shIn.size=3 from rfl] at hS;exact ⟨b,off,z,A1,n1,c1,e,hz,h1,h2,hS.sub (Sub.take (Del.s Del.z) (Sub.take Del.z (Sub.skip Sub.refl)))⟩
theorem Sep.elemOut {w0 W:World} {F0:Nat→Prop} {Γ:List Res} (h:Sep w0 F0 Γ W) {xs:List Out} {A:Option Addr} {n c i:Nat} (hm:At Γ (rds xs A n c shOut)) (hi:i<n) :
  ∃ b off z A1 n1 c1,A=some ⟨b,off,none⟩∧xs[i]? = some z∧I64 z.coin∧Sep w0 F0 (cells b (off+i * 2) [.int .i64 z.coin,.slice A1 n1 c1]::rds z.lock A1 n1 c1 shOp::Γ) W:=by
 obtain ⟨b,off,z,cs,e,hz,hS⟩:=h.elem hm hi;obtain ⟨A1,n1,c1,rfl,h1,hS⟩:=hS.open_out (At.s At.z);rw [show shOut.size=2 from rfl] at hS;exact ⟨b,off,z,A1,n1,c1,e,hz,h1,hS.sub (Sub.take (Del.s Del.z) (Sub.take Del.z (Sub.skip Sub.refl)))⟩
end
end Go.Proofs.YtiblpmghkcfgdaaGreatDoor
