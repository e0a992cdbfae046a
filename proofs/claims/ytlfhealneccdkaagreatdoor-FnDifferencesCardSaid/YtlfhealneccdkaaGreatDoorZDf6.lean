/- Texts, laid into one. -/
import Derived.Test.YtlfhealneccdkaaGreatDoorZDf3
import Derived.Test.YtlfhealneccdkaaGreatDoorZDf2
set_option linter.unusedVariables false
set_option linter.unusedSimpArgs false
set_option maxRecDepth 100000
set_option maxHeartbeats 16000000
namespace Go.Proofs.YtlfhealneccdkaaGreatDoor
open Go.RowKit Go.Sort
def szN (n:Nat) (left:Int):Int:=if left-n<0 then -1 else left-n
def vlog (v:Value) (s:Int):Value:=.agg #[v,.int .i64 s]
end Go.Proofs.YtlfhealneccdkaaGreatDoor
