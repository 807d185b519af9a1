/-
  What the operations on a space of lists do to its cells, as plain functions. No program in sight.
-/
import Derived.Test.YtpmfadepinmmjaaSpc
namespace Go.Proofs.Ytpmfadepinmmjaa

/-- the nodes, behind 'out' -/
def outA (A : Nat → Nat → Int) (b : Nat) : Nat → Nat → Int :=
  let A1 := if A b 1 = -1 then A else upd A (A b 1).toNat 2 (A b 2)
  let A2 := if A b 2 = -1 then A1 else upd A1 (A b 2).toNat 1 (A b 1)
  upd A2 b 0 (-1)
/-- the ends, behind 'out' -/
def outE (A E : Nat → Nat → Int) (b : Nat) : Nat → Nat → Int :=
  let l := (A b 0).toNat
  let E1 := if A b 1 = -1 then upd E l 0 (A b 2) else E
  let E2 := if A b 2 = -1 then upd E1 l 1 (A b 1) else E1
  upd E2 l 2 (E l 2 - 1)

/-- the nodes, behind a block's being put to a list's front -/
def frontA (A E : Nat → Nat → Int) (l b : Nat) : Nat → Nat → Int :=
  let A1 := upd (upd (upd A b 0 l) b 1 (-1)) b 2 (E l 0)
  if E l 0 = -1 then A1 else upd A1 (E l 0).toNat 1 b
def frontE (E : Nat → Nat → Int) (l b : Nat) : Nat → Nat → Int :=
  let E1 := if E l 0 = -1 then upd E l 1 b else E
  upd (upd E1 l 0 b) l 2 (E l 2 + 1)
/-- the nodes, behind a block's being put to a list's back -/
def backA (A E : Nat → Nat → Int) (l b : Nat) : Nat → Nat → Int :=
  let A1 := upd (upd (upd A b 0 l) b 1 (E l 1)) b 2 (-1)
  if E l 1 = -1 then A1 else upd A1 (E l 1).toNat 2 b
def backE (E : Nat → Nat → Int) (l b : Nat) : Nat → Nat → Int :=
  let E1 := if E l 1 = -1 then upd E l 0 b else E
  upd (upd E1 l 1 b) l 2 (E l 2 + 1)
end Go.Proofs.Ytpmfadepinmmjaa
