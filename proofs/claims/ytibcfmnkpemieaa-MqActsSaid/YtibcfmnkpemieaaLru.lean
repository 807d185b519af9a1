/-
  The cache: New, Has, Use, Add, Remove, All, Len. No condition but that the cache lies in memory.
-/
import Derived.Test.YtibcfmnkpemieaaLruFn
namespace Go.Proofs.Ytibcfmnkpemieaa
open Go.RowKit

/-- a capacity, held within its bounds -/
def capN (c : Int) : Nat := if c < 1 then 1 else if 16 < c then 16 else c.toNat
theorem capN_eq (c : Int) : ((capN c : Nat) : Int) = max 1 (min c 16) := by
  unfold capN
  split
  · omega
  · split <;> omega

section
variable (p bs be cap : Nat) (L : List Nat) (w : World) (h : LruAt w p bs be cap L)
include h
end
end Go.Proofs.Ytibcfmnkpemieaa
