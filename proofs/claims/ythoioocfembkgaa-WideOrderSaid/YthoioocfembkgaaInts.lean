/-
  gradineref01.SameInts: are numbers alike? No condition but that both slices read.
-/
import Derived.Test.YthoioocfembkgaaRows
import Derived.Test.YthoioocfembkgaaMem
namespace Go.Proofs.Ythoioocfembkgaa
open Go.RowKit

theorem getD_lt {l : List Int} {k : Nat} (h : k < l.length) : l[k]? = some (l.getD k 0) := by simp [List.getD, h]

end Go.Proofs.Ythoioocfembkgaa
