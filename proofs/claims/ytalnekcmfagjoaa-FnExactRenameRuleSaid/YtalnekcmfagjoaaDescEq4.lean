/- Comparison of descriptions and registries. -/
import Derived.Test.YtalnekcmfagjoaaDescEq3
namespace Go.Proofs.Ytalnekcmfagjoaa
open Go.RowKit Go.Sort

end Go.Proofs.Ytalnekcmfagjoaa
