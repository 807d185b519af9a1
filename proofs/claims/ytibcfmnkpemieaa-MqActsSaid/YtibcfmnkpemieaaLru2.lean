/-
  gradinelaw11.wakes; a cache that is not there. No condition.
-/
import Derived.Test.YtibcfmnkpemieaaLru
namespace Go.Proofs.Ytibcfmnkpemieaa
open Go.RowKit

end Go.Proofs.Ytibcfmnkpemieaa
