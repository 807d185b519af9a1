/-
  An operation under a guard that holds is the operation.
-/
import Derived.Test.YthoioocfembkgaaMem
namespace Go.Proofs.Ythoioocfembkgaa
open Go.RowKit
theorem wpList_unguard {P : Program} {w : World} {ops : Array Oper} {rest : List Oper} {a : Act} {Q : Exit → Act → World → Prop} {dst : Option Tmp} {op : Op} {type : TypeId} {pos : String} {after : Array Edge} {j : Nat} {b : Bool}
    (hy : Region.wanted ⟨dst, op, type, pos, after, some (j, b)⟩ (yielded ops a.tmps) = true) (h : wpList P ops Q (⟨dst, op, type, pos, after, none⟩ :: rest) a w) :
    wpList P ops Q (⟨dst, op, type, pos, after, some (j, b)⟩ :: rest) a w := by
  unfold wpList at h ⊢
  rw [if_pos hy]
  rw [if_pos (by rfl)] at h
  exact h
end Go.Proofs.Ythoioocfembkgaa
