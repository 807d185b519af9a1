/-
  No cell of these rows narrows 'for every input' (looked for: loops, veiled, ifaces, maps, wideKeys, modest, calm, conditions, laid).
  DERIVED. THE GIVEN ROWS OF THIS SEAT. 6 by the template 'for every input the law returns true; each argument reads behind the call as it read before'; 0 by the template 'total and deterministic' (their statements: YtmlkjolpoldchaaTotals.lean).
  GIVEN WITH THE SEED: the statements are not yours to turn. If you find one false, say at which input.
  Laid BY PROGRAM, IN A SANDBOX (cutbox-rows.mjs): the forced cells as the released guide's own fill.sh prints them over the translation bd3bb366d31fc0b0… (all of the seat's roots in one cut). By AI agents, Wed Nov 11 2026. No macro, syntax, notation, axiom, sorry.
-/
import Derived.Test.YtmlkjolpoldchaaChecked
import GoSem.Claim
import GoSem.ClaimJoined
import GoSem.ClaimMapViews
import Derived.JoinedTies
import Derived.KernelRfl
namespace Go.Proofs.Ytmlkjolpoldchaa
/- THE CELL 'sum', in the pinned program and in every row, IS THE sha256 OF THE DUMP (.gsa) THAT YtmlkjolpoldchaaProg.lean LOADS. Nothing in Lean hashes anything: it is a label: what it is worth is what the hold of that sum in a sandbox is worth. -/
noncomputable def Try.pinned : Pinned := { name := "ytmlkjolpoldchaa", sum := "bd3bb366d31fc0b0b9b0c453fe604dde86de521a9bdf019d06a46caa72f943b6", checked := Try.checked }
namespace Rows
def none {H : Type} : Left H := { results := [], args := [] }

/-- 'gradinelaw02.WideParts': WHATEVER THE INPUT: true; the input reads as it did. -/
def widePartsSpec : ChangeSpec := { name := "wideParts", fn := fun _ => fun
  | [d1, d2] => { results := [.lit (.bool true)], args := [d1, d2] }
  | _ => none }
def widePartsRow : OpenClaim := { program := "ytmlkjolpoldchaa", sum := "bd3bb366d31fc0b0b9b0c453fe604dde86de521a9bdf019d06a46caa72f943b6", func := "gradine/gradinelaw02.WideParts", spec := "wideParts", apart := false }
def WidePartsSaid : Prop := widePartsRow.holds Try.pinned (OpenSpec.ofChange widePartsSpec)

/-- ITS FALSE NEIGHBOUR: 'it returns false'. Refute it at one input. -/
def widePartsWrong : ChangeSpec := { name := "wideParts", fn := fun _ => fun
  | [d1, d2] => { results := [.lit (.bool false)], args := [d1, d2] }
  | _ => none }
def WidePartsWrongFalsely : Prop := widePartsRow.holds Try.pinned (OpenSpec.ofChange widePartsWrong)

/-- 'gradinelaw02.WideMul': WHATEVER THE INPUT: true; the input reads as it did. -/
def wideMulSpec : ChangeSpec := { name := "wideMul", fn := fun _ => fun
  | [d1, d2] => { results := [.lit (.bool true)], args := [d1, d2] }
  | _ => none }
def wideMulRow : OpenClaim := { program := "ytmlkjolpoldchaa", sum := "bd3bb366d31fc0b0b9b0c453fe604dde86de521a9bdf019d06a46caa72f943b6", func := "gradine/gradinelaw02.WideMul", spec := "wideMul", apart := false }
def WideMulSaid : Prop := wideMulRow.holds Try.pinned (OpenSpec.ofChange wideMulSpec)

/-- ITS FALSE NEIGHBOUR: 'it returns false'. Refute it at one input. -/
def wideMulWrong : ChangeSpec := { name := "wideMul", fn := fun _ => fun
  | [d1, d2] => { results := [.lit (.bool false)], args := [d1, d2] }
  | _ => none }
def WideMulWrongFalsely : Prop := wideMulRow.holds Try.pinned (OpenSpec.ofChange wideMulWrong)

/-- 'gradinelaw02.WideCompare': WHATEVER THE INPUT: true; the input reads as it did. -/
def wideCompareSpec : ChangeSpec := { name := "wideCompare", fn := fun _ => fun
  | [d1, d2] => { results := [.lit (.bool true)], args := [d1, d2] }
  | _ => none }
def wideCompareRow : OpenClaim := { program := "ytmlkjolpoldchaa", sum := "bd3bb366d31fc0b0b9b0c453fe604dde86de521a9bdf019d06a46caa72f943b6", func := "gradine/gradinelaw02.WideCompare", spec := "wideCompare", apart := false }
def WideCompareSaid : Prop := wideCompareRow.holds Try.pinned (OpenSpec.ofChange wideCompareSpec)

/-- ITS FALSE NEIGHBOUR: 'it returns false'. Refute it at one input. -/
def wideCompareWrong : ChangeSpec := { name := "wideCompare", fn := fun _ => fun
  | [d1, d2] => { results := [.lit (.bool false)], args := [d1, d2] }
  | _ => none }
def WideCompareWrongFalsely : Prop := wideCompareRow.holds Try.pinned (OpenSpec.ofChange wideCompareWrong)

/-- 'gradinelaw02.WideWhole': WHATEVER THE INPUT: true; the input reads as it did. -/
def wideWholeSpec : ChangeSpec := { name := "wideWhole", fn := fun _ => fun
  | [d1, d2] => { results := [.lit (.bool true)], args := [d1, d2] }
  | _ => none }
def wideWholeRow : OpenClaim := { program := "ytmlkjolpoldchaa", sum := "bd3bb366d31fc0b0b9b0c453fe604dde86de521a9bdf019d06a46caa72f943b6", func := "gradine/gradinelaw02.WideWhole", spec := "wideWhole", apart := false }
def WideWholeSaid : Prop := wideWholeRow.holds Try.pinned (OpenSpec.ofChange wideWholeSpec)

/-- ITS FALSE NEIGHBOUR: 'it returns false'. Refute it at one input. -/
def wideWholeWrong : ChangeSpec := { name := "wideWhole", fn := fun _ => fun
  | [d1, d2] => { results := [.lit (.bool false)], args := [d1, d2] }
  | _ => none }
def WideWholeWrongFalsely : Prop := wideWholeRow.holds Try.pinned (OpenSpec.ofChange wideWholeWrong)

/-- 'gradinelaw02.WideThree': WHATEVER THE INPUT: true; the input reads as it did. -/
def wideThreeSpec : ChangeSpec := { name := "wideThree", fn := fun _ => fun
  | [d1, d2, d3] => { results := [.lit (.bool true)], args := [d1, d2, d3] }
  | _ => none }
def wideThreeRow : OpenClaim := { program := "ytmlkjolpoldchaa", sum := "bd3bb366d31fc0b0b9b0c453fe604dde86de521a9bdf019d06a46caa72f943b6", func := "gradine/gradinelaw02.WideThree", spec := "wideThree", apart := false }
def WideThreeSaid : Prop := wideThreeRow.holds Try.pinned (OpenSpec.ofChange wideThreeSpec)

/-- ITS FALSE NEIGHBOUR: 'it returns false'. Refute it at one input. -/
def wideThreeWrong : ChangeSpec := { name := "wideThree", fn := fun _ => fun
  | [d1, d2, d3] => { results := [.lit (.bool false)], args := [d1, d2, d3] }
  | _ => none }
def WideThreeWrongFalsely : Prop := wideThreeRow.holds Try.pinned (OpenSpec.ofChange wideThreeWrong)

/-- 'gradinelaw02.WideOrder': WHATEVER THE INPUT: true; the input reads as it did. -/
def wideOrderSpec : ChangeSpec := { name := "wideOrder", fn := fun _ => fun
  | [d] => { results := [.lit (.bool true)], args := [d] }
  | _ => none }
def wideOrderRow : OpenClaim := { program := "ytmlkjolpoldchaa", sum := "bd3bb366d31fc0b0b9b0c453fe604dde86de521a9bdf019d06a46caa72f943b6", func := "gradine/gradinelaw02.WideOrder", spec := "wideOrder", unfollowed := true, recurses := true, apart := false }
def WideOrderSaid : Prop := wideOrderRow.holds Try.pinned (OpenSpec.ofChange wideOrderSpec)

/-- ITS FALSE NEIGHBOUR: 'it returns false'. Refute it at one input. -/
def wideOrderWrong : ChangeSpec := { name := "wideOrder", fn := fun _ => fun
  | [d] => { results := [.lit (.bool false)], args := [d] }
  | _ => none }
def WideOrderWrongFalsely : Prop := wideOrderRow.holds Try.pinned (OpenSpec.ofChange wideOrderWrong)

/- THE SECOND FORM. 'bulk': how many values and letters a reading holds, each counted each time it is reached (what is shared counts as often as it is met; a slice's spare places count too). A statement '..UptoSaid' is the law's where the arguments, and the package variables that the reading takes, are together of bulk at most 1048576: NARROWER than '..Said'. Prove '..Said' where nothing that the law and all that it calls make is longer than what came in: it says more and counts as full. Else prove '..UptoSaid'. A law counts once. -/
mutual
def uptoBulk {H : Type} : DataW H → Nat
  | .lit (.string bytes) => bytes.length + 1
  | .lit _ => 1
  | .nil => 1
  | .ptr d => uptoBulk d + 1
  | .slice elems spare => uptoBulkAll elems + uptoBulkAll spare + 1
  | .agg parts => uptoBulkAll parts + 1
  | .iface _ d => uptoBulk d + 1
  | .map entries => uptoBulkEntries entries + 1
  | .held _ => 1
def uptoBulkAll {H : Type} : List (DataW H) → Nat
  | [] => 0
  | d :: r => uptoBulk d + uptoBulkAll r
def uptoBulkEntries {H : Type} : List (Lit × DataW H) → Nat
  | [] => 0
  | x :: r => uptoBulkEntry x + uptoBulkEntries r
def uptoBulkEntry {H : Type} : Lit × DataW H → Nat
  | (.string bytes, d) => bytes.length + uptoBulk d + 1
  | (_, d) => uptoBulk d + 1
 end
def uptoSmall : (H : Type) → List (DataW H) → Bool := fun _ ds => decide (uptoBulkAll ds ≤ 1048576)
def OpenSpec.upto (s : _root_.Go.ChangeSpec) : _root_.Go.OpenSpec := { _root_.Go.OpenSpec.ofChange s with cond := some uptoSmall }

/-- 'gradinelaw02.WideParts', WHERE WHAT IT READS IS OF BULK AT MOST 1048576: true; the input reads as it did. -/
def widePartsUptoRow : OpenClaim := { program := "ytmlkjolpoldchaa", sum := "bd3bb366d31fc0b0b9b0c453fe604dde86de521a9bdf019d06a46caa72f943b6", func := "gradine/gradinelaw02.WideParts", spec := "wideParts", apart := false, narrowed := true }
def WidePartsUptoSaid : Prop := widePartsUptoRow.holds Try.pinned (OpenSpec.upto widePartsSpec)

/-- 'gradinelaw02.WideMul', WHERE WHAT IT READS IS OF BULK AT MOST 1048576: true; the input reads as it did. -/
def wideMulUptoRow : OpenClaim := { program := "ytmlkjolpoldchaa", sum := "bd3bb366d31fc0b0b9b0c453fe604dde86de521a9bdf019d06a46caa72f943b6", func := "gradine/gradinelaw02.WideMul", spec := "wideMul", apart := false, narrowed := true }
def WideMulUptoSaid : Prop := wideMulUptoRow.holds Try.pinned (OpenSpec.upto wideMulSpec)

/-- 'gradinelaw02.WideCompare', WHERE WHAT IT READS IS OF BULK AT MOST 1048576: true; the input reads as it did. -/
def wideCompareUptoRow : OpenClaim := { program := "ytmlkjolpoldchaa", sum := "bd3bb366d31fc0b0b9b0c453fe604dde86de521a9bdf019d06a46caa72f943b6", func := "gradine/gradinelaw02.WideCompare", spec := "wideCompare", apart := false, narrowed := true }
def WideCompareUptoSaid : Prop := wideCompareUptoRow.holds Try.pinned (OpenSpec.upto wideCompareSpec)

/-- 'gradinelaw02.WideWhole', WHERE WHAT IT READS IS OF BULK AT MOST 1048576: true; the input reads as it did. -/
def wideWholeUptoRow : OpenClaim := { program := "ytmlkjolpoldchaa", sum := "bd3bb366d31fc0b0b9b0c453fe604dde86de521a9bdf019d06a46caa72f943b6", func := "gradine/gradinelaw02.WideWhole", spec := "wideWhole", apart := false, narrowed := true }
def WideWholeUptoSaid : Prop := wideWholeUptoRow.holds Try.pinned (OpenSpec.upto wideWholeSpec)

/-- 'gradinelaw02.WideThree', WHERE WHAT IT READS IS OF BULK AT MOST 1048576: true; the input reads as it did. -/
def wideThreeUptoRow : OpenClaim := { program := "ytmlkjolpoldchaa", sum := "bd3bb366d31fc0b0b9b0c453fe604dde86de521a9bdf019d06a46caa72f943b6", func := "gradine/gradinelaw02.WideThree", spec := "wideThree", apart := false, narrowed := true }
def WideThreeUptoSaid : Prop := wideThreeUptoRow.holds Try.pinned (OpenSpec.upto wideThreeSpec)

/-- 'gradinelaw02.WideOrder', WHERE WHAT IT READS IS OF BULK AT MOST 1048576: true; the input reads as it did. -/
def wideOrderUptoRow : OpenClaim := { program := "ytmlkjolpoldchaa", sum := "bd3bb366d31fc0b0b9b0c453fe604dde86de521a9bdf019d06a46caa72f943b6", func := "gradine/gradinelaw02.WideOrder", spec := "wideOrder", unfollowed := true, recurses := true, apart := false, narrowed := true }
def WideOrderUptoSaid : Prop := wideOrderUptoRow.holds Try.pinned (OpenSpec.upto wideOrderSpec)

end Rows
end Go.Proofs.Ytmlkjolpoldchaa
