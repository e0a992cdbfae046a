/- Comparison of descriptions and registries. -/
import Derived.Test.YtmnenemnplpigaaDescEq3
namespace Go.Proofs.Ytmnenemnplpigaa
open Go.RowKit Go.Sort

end Go.Proofs.Ytmnenemnplpigaa
