/- Texts, laid into one. -/
import Derived.Test.YtpmcofmdjckijaaGreatZDg14
set_option linter.unusedVariables false
set_option linter.unusedSimpArgs false
set_option maxRecDepth 100000
set_option maxHeartbeats 16000000
namespace Go.Proofs.YtpmcofmdjckijaaGreat
open Go.RowKit Go.Sort
end Go.Proofs.YtpmcofmdjckijaaGreat
