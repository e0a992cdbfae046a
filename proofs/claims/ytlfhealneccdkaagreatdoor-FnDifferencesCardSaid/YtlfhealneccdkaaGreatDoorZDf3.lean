/- Texts, laid into one. -/
import Derived.Test.YtlfhealneccdkaaGreatDoorZDf1
set_option linter.unusedVariables false
set_option linter.unusedSimpArgs false
set_option maxRecDepth 100000
set_option maxHeartbeats 16000000
namespace Go.Proofs.YtlfhealneccdkaaGreatDoor
open Go.RowKit Go.Sort
theorem E_u8:Elem Tryz.prog 22 5 1 1 (.int .u8 0):=⟨Tryz.underlying22,by kernel_rfl,rfl,by omega⟩
theorem E_int:Elem Tryz.prog 65 3 1 8 (.int .i64 0):=⟨Tryz.underlying65,by kernel_rfl,rfl,by omega⟩
def mk8 (k:Int) (i:Nat):Value:=.int .u8 (IntKind.u8.wrap (k+i))
def mkI (k:Int) (i:Nat):Value:=.int .i64 (k+i)
end Go.Proofs.YtlfhealneccdkaaGreatDoor
