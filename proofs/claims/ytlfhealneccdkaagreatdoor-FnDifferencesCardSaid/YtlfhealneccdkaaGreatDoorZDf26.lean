/- Texts, laid into one. -/
import Derived.Test.YtlfhealneccdkaaGreatDoorZDf21
import Derived.Test.YtlfhealneccdkaaGreatDoorZDf23
set_option linter.unusedVariables false
set_option linter.unusedSimpArgs false
set_option maxRecDepth 100000
set_option maxHeartbeats 16000000
namespace Go.Proofs.YtlfhealneccdkaaGreatDoor
structure ReadsOk (r:DRule) (ok:Int→Nat→Prop):Prop where
 arr:r.kind=5→∀ k,ok 0 k
 seq:r.kind=6→∀ k,k<r.kids.length→ok 0 k
 cho:r.kind=7→∀ n,tagN r.tags n<r.tags.length→ok n 0
 opt:r.kind=8∨r.kind=9→ok 0 0
end Go.Proofs.YtlfhealneccdkaaGreatDoor
