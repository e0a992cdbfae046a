/- Comparison of descriptions and registries. -/
import Derived.Test.YtpefbcnfhngggaaDescEq3
namespace Go.Proofs.Ytpefbcnfhngggaa
open Go.RowKit Go.Sort

end Go.Proofs.Ytpefbcnfhngggaa
