/-
  gradineref10.Space.Of. No condition but that the space lies in memory.
-/
import Derived.Test.YtibcfmnkpemieaaRsp
import Derived.Test.YtibcfmnkpemieaaDo10
namespace Go.Proofs.Ytibcfmnkpemieaa
open Go.RowKit

/-- the list that a block is in; -1: none -/
def ofR (Ls : List (List Nat)) (b : Int) : Int := match (List.range Ls.length).find? (fun l => decide (b ∈ asInts (Ls.getD l []))) with | some l => (l : Int) | none => -1
theorem ofR_some {Ls : List (List Nat)} {b : Int} {i : Nat} (hi : i < Ls.length) (hm : b ∈ asInts (Ls.getD i [])) (hn : ∀ j, j < i → b ∉ asInts (Ls.getD j [])) : ofR Ls b = i := by
  have : (List.range Ls.length).find? (fun l => decide (b ∈ asInts (Ls.getD l []))) = some i := by
    rw [List.find?_range_eq_some]
    exact ⟨by simpa using hm, by simpa using hi, fun j hj => by simpa using hn j hj⟩
  unfold ofR; rw [this]
theorem ofR_none {Ls : List (List Nat)} {b : Int} (hn : ∀ j, j < Ls.length → b ∉ asInts (Ls.getD j [])) : ofR Ls b = -1 := by
  have : (List.range Ls.length).find? (fun l => decide (b ∈ asInts (Ls.getD l []))) = none := by
    rw [List.find?_range_eq_none]
    exact fun j hj => by simpa using hn j hj
  unfold ofR; rw [this]

end Go.Proofs.Ytibcfmnkpemieaa
