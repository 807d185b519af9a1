/-
  conf.Right of any configuration. No condition but that the hints read, and are few.
-/
import Derived.Test.YtpmfadepinmmjaaRight
namespace Go.Proofs.Ytpmfadepinmmjaa
open Go.RowKit

theorem ret_true_false {P : Prop} {r : Bool} (hr : r = true ↔ P) (h : ¬ P) : r = false := by
  rw [Bool.eq_false_iff]; exact fun e => h (hr.1 e)
end Go.Proofs.Ytpmfadepinmmjaa
