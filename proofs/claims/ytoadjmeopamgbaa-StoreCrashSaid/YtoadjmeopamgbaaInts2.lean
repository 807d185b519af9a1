/-
  gradineref10: Without, Ahead. No condition but that the slices read.
-/
import Derived.Test.YtoadjmeopamgbaaInts
namespace Go.Proofs.Ytoadjmeopamgbaa
open Go.RowKit

theorem ints_info : (Try.prog.info? 3).map (fun i => (i.zero, i.size, i.bytes)) = some (some (.int .i64 0), 1, 8) := by kernel_rfl

/-- a list without a number -/
def woL (l : List Int) (n : Int) : List Int := l.filter (· ≠ n)
theorem woL_snoc_ne (l : List Int) (x n : Int) (h : x ≠ n) : woL (l ++ [x]) n = woL l n ++ [x] := by unfold woL; rw [List.filter_append]; simp [h]
theorem woL_snoc_eq (l : List Int) (x n : Int) (h : x = n) : woL (l ++ [x]) n = woL l n := by unfold woL; rw [List.filter_append]; simp [h]
theorem woL_len (l : List Int) (n : Int) : (woL l n).length ≤ l.length := List.length_filter_le _ _
theorem take_snoc_getD {l : List Int} {k : Nat} (h : k < l.length) : l.take (k + 1) = l.take k ++ [l.getD k 0] := by
  rw [List.take_succ_eq_append_getElem h]; simp [List.getD, h]

end Go.Proofs.Ytoadjmeopamgbaa
