/-
  No cell of these rows narrows 'for every input' (looked for: loops, veiled, ifaces, maps, wideKeys, modest, calm, conditions, laid).
  DERIVED. THE GIVEN ROWS OF THIS SEAT. 4 by the template 'for every input the law returns true; each argument reads behind the call as it read before'; 0 by the template 'total and deterministic' (their statements: YtpmfadepinmmjaaTotals.lean).
  GIVEN WITH THE SEED: the statements are not yours to turn. If you find one false, say at which input.
  Laid BY PROGRAM, IN A SANDBOX (cutbox-rows.mjs): the forced cells as the released guide's own fill.sh prints them over the translation ee63cc95c1a2db71… (all of the seat's roots in one cut). By AI agents, Wed Nov 11 2026. No macro, syntax, notation, axiom, sorry.
-/
import Derived.Test.YtpmfadepinmmjaaChecked
import GoSem.Claim
import GoSem.ClaimJoined
import GoSem.ClaimMapViews
import Derived.JoinedTies
import Derived.KernelRfl
namespace Go.Proofs.Ytpmfadepinmmjaa
/- THE CELL 'sum', in the pinned program and in every row, IS THE sha256 OF THE DUMP (.gsa) THAT YtpmfadepinmmjaaProg.lean LOADS. Nothing in Lean hashes anything: it is a label: what it is worth is what the hold of that sum in a sandbox is worth. -/
noncomputable def Try.pinned : Pinned := { name := "ytpmfadepinmmjaa", sum := "ee63cc95c1a2db71382004940c0e2c713e9c84df116fe8b8d118325754544330", checked := Try.checked }
namespace Rows
def none {H : Type} : Left H := { results := [], args := [] }

/-- 'gradinelaw15.PartBound': WHATEVER THE INPUT: true; the input reads as it did. -/
def partBoundSpec : ChangeSpec := { name := "partBound", fn := fun _ => fun
  | [d1, d2, d3] => { results := [.lit (.bool true)], args := [d1, d2, d3] }
  | _ => none }
def partBoundRow : OpenClaim := { program := "ytpmfadepinmmjaa", sum := "ee63cc95c1a2db71382004940c0e2c713e9c84df116fe8b8d118325754544330", func := "gradine/gradinelaw15.PartBound", spec := "partBound", unfollowed := true, recurses := true, apart := false }
def PartBoundSaid : Prop := partBoundRow.holds Try.pinned (OpenSpec.ofChange partBoundSpec)

/-- ITS FALSE NEIGHBOUR: 'it returns false'. Refute it at one input. -/
def partBoundWrong : ChangeSpec := { name := "partBound", fn := fun _ => fun
  | [d1, d2, d3] => { results := [.lit (.bool false)], args := [d1, d2, d3] }
  | _ => none }
def PartBoundWrongFalsely : Prop := partBoundRow.holds Try.pinned (OpenSpec.ofChange partBoundWrong)

/-- 'gradinelaw15.PartApart': WHATEVER THE INPUT: true; the input reads as it did. -/
def partApartSpec : ChangeSpec := { name := "partApart", fn := fun _ => fun
  | [d1, d2, d3] => { results := [.lit (.bool true)], args := [d1, d2, d3] }
  | _ => none }
def partApartRow : OpenClaim := { program := "ytpmfadepinmmjaa", sum := "ee63cc95c1a2db71382004940c0e2c713e9c84df116fe8b8d118325754544330", func := "gradine/gradinelaw15.PartApart", spec := "partApart", unfollowed := true, recurses := true, apart := false }
def PartApartSaid : Prop := partApartRow.holds Try.pinned (OpenSpec.ofChange partApartSpec)

/-- ITS FALSE NEIGHBOUR: 'it returns false'. Refute it at one input. -/
def partApartWrong : ChangeSpec := { name := "partApart", fn := fun _ => fun
  | [d1, d2, d3] => { results := [.lit (.bool false)], args := [d1, d2, d3] }
  | _ => none }
def PartApartWrongFalsely : Prop := partApartRow.holds Try.pinned (OpenSpec.ofChange partApartWrong)

/-- 'gradinelaw15.PartActs': WHATEVER THE INPUT: true; the input reads as it did. -/
def partActsSpec : ChangeSpec := { name := "partActs", fn := fun _ => fun
  | [d1, d2, d3] => { results := [.lit (.bool true)], args := [d1, d2, d3] }
  | _ => none }
def partActsRow : OpenClaim := { program := "ytpmfadepinmmjaa", sum := "ee63cc95c1a2db71382004940c0e2c713e9c84df116fe8b8d118325754544330", func := "gradine/gradinelaw15.PartActs", spec := "partActs", unfollowed := true, recurses := true, apart := false }
def PartActsSaid : Prop := partActsRow.holds Try.pinned (OpenSpec.ofChange partActsSpec)

/-- ITS FALSE NEIGHBOUR: 'it returns false'. Refute it at one input. -/
def partActsWrong : ChangeSpec := { name := "partActs", fn := fun _ => fun
  | [d1, d2, d3] => { results := [.lit (.bool false)], args := [d1, d2, d3] }
  | _ => none }
def PartActsWrongFalsely : Prop := partActsRow.holds Try.pinned (OpenSpec.ofChange partActsWrong)

/-- 'gradinelaw15.PartNil': WHATEVER THE INPUT: true; the input reads as it did. -/
def partNilSpec : ChangeSpec := { name := "partNil", fn := fun _ => fun
  | [d] => { results := [.lit (.bool true)], args := [d] }
  | _ => none }
def partNilRow : OpenClaim := { program := "ytpmfadepinmmjaa", sum := "ee63cc95c1a2db71382004940c0e2c713e9c84df116fe8b8d118325754544330", func := "gradine/gradinelaw15.PartNil", spec := "partNil", unfollowed := true, recurses := true, apart := false }
def PartNilSaid : Prop := partNilRow.holds Try.pinned (OpenSpec.ofChange partNilSpec)

/-- ITS FALSE NEIGHBOUR: 'it returns false'. Refute it at one input. -/
def partNilWrong : ChangeSpec := { name := "partNil", fn := fun _ => fun
  | [d] => { results := [.lit (.bool false)], args := [d] }
  | _ => none }
def PartNilWrongFalsely : Prop := partNilRow.holds Try.pinned (OpenSpec.ofChange partNilWrong)

/- THE SECOND FORM. 'bulk': how many values and letters a reading holds, each counted each time it is reached (what is shared counts as often as it is met; a slice's spare places count too). A statement '..UptoSaid' is the law's where the arguments, and the package variables that the reading takes, are together of bulk at most 1048576: NARROWER than '..Said'. Prove '..Said' where nothing that the law and all that it calls make is longer than what came in: it says more and counts as full. Else prove '..UptoSaid'. A law counts once. -/
mutual
def uptoBulk {H : Type} : DataW H → Nat
  | .lit (.string bytes) => bytes.length + 1
  | .lit _ => 1
  | .nil => 1
  | .ptr d => uptoBulk d + 1
  | .slice elems spare => uptoBulkAll elems + uptoBulkAll spare + 1
  | .agg parts => uptoBulkAll parts + 1
  | .iface _ d => uptoBulk d + 1
  | .map entries => uptoBulkEntries entries + 1
  | .held _ => 1
def uptoBulkAll {H : Type} : List (DataW H) → Nat
  | [] => 0
  | d :: r => uptoBulk d + uptoBulkAll r
def uptoBulkEntries {H : Type} : List (Lit × DataW H) → Nat
  | [] => 0
  | x :: r => uptoBulkEntry x + uptoBulkEntries r
def uptoBulkEntry {H : Type} : Lit × DataW H → Nat
  | (.string bytes, d) => bytes.length + uptoBulk d + 1
  | (_, d) => uptoBulk d + 1
 end
def uptoSmall : (H : Type) → List (DataW H) → Bool := fun _ ds => decide (uptoBulkAll ds ≤ 1048576)
def OpenSpec.upto (s : _root_.Go.ChangeSpec) : _root_.Go.OpenSpec := { _root_.Go.OpenSpec.ofChange s with cond := some uptoSmall }

/-- 'gradinelaw15.PartBound', WHERE WHAT IT READS IS OF BULK AT MOST 1048576: true; the input reads as it did. -/
def partBoundUptoRow : OpenClaim := { program := "ytpmfadepinmmjaa", sum := "ee63cc95c1a2db71382004940c0e2c713e9c84df116fe8b8d118325754544330", func := "gradine/gradinelaw15.PartBound", spec := "partBound", unfollowed := true, recurses := true, apart := false, narrowed := true }
def PartBoundUptoSaid : Prop := partBoundUptoRow.holds Try.pinned (OpenSpec.upto partBoundSpec)

/-- 'gradinelaw15.PartApart', WHERE WHAT IT READS IS OF BULK AT MOST 1048576: true; the input reads as it did. -/
def partApartUptoRow : OpenClaim := { program := "ytpmfadepinmmjaa", sum := "ee63cc95c1a2db71382004940c0e2c713e9c84df116fe8b8d118325754544330", func := "gradine/gradinelaw15.PartApart", spec := "partApart", unfollowed := true, recurses := true, apart := false, narrowed := true }
def PartApartUptoSaid : Prop := partApartUptoRow.holds Try.pinned (OpenSpec.upto partApartSpec)

/-- 'gradinelaw15.PartActs', WHERE WHAT IT READS IS OF BULK AT MOST 1048576: true; the input reads as it did. -/
def partActsUptoRow : OpenClaim := { program := "ytpmfadepinmmjaa", sum := "ee63cc95c1a2db71382004940c0e2c713e9c84df116fe8b8d118325754544330", func := "gradine/gradinelaw15.PartActs", spec := "partActs", unfollowed := true, recurses := true, apart := false, narrowed := true }
def PartActsUptoSaid : Prop := partActsUptoRow.holds Try.pinned (OpenSpec.upto partActsSpec)

/-- 'gradinelaw15.PartNil', WHERE WHAT IT READS IS OF BULK AT MOST 1048576: true; the input reads as it did. -/
def partNilUptoRow : OpenClaim := { program := "ytpmfadepinmmjaa", sum := "ee63cc95c1a2db71382004940c0e2c713e9c84df116fe8b8d118325754544330", func := "gradine/gradinelaw15.PartNil", spec := "partNil", unfollowed := true, recurses := true, apart := false, narrowed := true }
def PartNilUptoSaid : Prop := partNilUptoRow.holds Try.pinned (OpenSpec.upto partNilSpec)

end Rows
end Go.Proofs.Ytpmfadepinmmjaa
