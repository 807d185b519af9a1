/-
  gradineref03: in, Hints, between. No condition but that the hints read.
-/
import Derived.Test.YtpmfadepinmmjaaCRight
namespace Go.Proofs.Ytpmfadepinmmjaa
open Go.RowKit

end Go.Proofs.Ytpmfadepinmmjaa
