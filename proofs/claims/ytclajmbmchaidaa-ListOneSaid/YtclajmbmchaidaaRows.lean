/-
  No cell of these rows narrows 'for every input' (looked for: loops, veiled, ifaces, maps, wideKeys, modest, calm, conditions, laid).
  DERIVED. THE GIVEN ROWS OF THIS SEAT. 10 by the template 'for every input the law returns true; each argument reads behind the call as it read before'; 0 by the template 'total and deterministic' (their statements: YtclajmbmchaidaaTotals.lean).
  GIVEN WITH THE SEED: the statements are not yours to turn. If you find one false, say at which input.
  Laid BY PROGRAM, IN A SANDBOX (cutbox-rows.mjs): the forced cells as the released guide's own fill.sh prints them over the translation 4fbc4e742caf3227… (all of the seat's roots in one cut). By AI agents, Wed Nov 11 2026. No macro, syntax, notation, axiom, sorry.
-/
import Derived.Test.YtclajmbmchaidaaChecked
import GoSem.Claim
import GoSem.ClaimJoined
import GoSem.ClaimMapViews
import Derived.JoinedTies
import Derived.KernelRfl
namespace Go.Proofs.Ytclajmbmchaidaa
/- THE CELL 'sum', in the pinned program and in every row, IS THE sha256 OF THE DUMP (.gsa) THAT YtclajmbmchaidaaProg.lean LOADS. Nothing in Lean hashes anything: it is a label: what it is worth is what the hold of that sum in a sandbox is worth. -/
noncomputable def Try.pinned : Pinned := { name := "ytclajmbmchaidaa", sum := "4fbc4e742caf32271efb2a40e1c05449a2d24a47362f97d49ddf3262153e067b", checked := Try.checked }
namespace Rows
def none {H : Type} : Left H := { results := [], args := [] }

/-- 'gradinelaw10.ListOne': WHATEVER THE INPUT: true; the input reads as it did. -/
def listOneSpec : ChangeSpec := { name := "listOne", fn := fun _ => fun
  | [d] => { results := [.lit (.bool true)], args := [d] }
  | _ => none }
def listOneRow : OpenClaim := { program := "ytclajmbmchaidaa", sum := "4fbc4e742caf32271efb2a40e1c05449a2d24a47362f97d49ddf3262153e067b", func := "gradine/gradinelaw10.ListOne", spec := "listOne", apart := false }
def ListOneSaid : Prop := listOneRow.holds Try.pinned (OpenSpec.ofChange listOneSpec)

/-- ITS FALSE NEIGHBOUR: 'it returns false'. Refute it at one input. -/
def listOneWrong : ChangeSpec := { name := "listOne", fn := fun _ => fun
  | [d] => { results := [.lit (.bool false)], args := [d] }
  | _ => none }
def ListOneWrongFalsely : Prop := listOneRow.holds Try.pinned (OpenSpec.ofChange listOneWrong)

/-- 'gradinelaw10.ListEnds': WHATEVER THE INPUT: true; the input reads as it did. -/
def listEndsSpec : ChangeSpec := { name := "listEnds", fn := fun _ => fun
  | [d1, d2, d3] => { results := [.lit (.bool true)], args := [d1, d2, d3] }
  | _ => none }
def listEndsRow : OpenClaim := { program := "ytclajmbmchaidaa", sum := "4fbc4e742caf32271efb2a40e1c05449a2d24a47362f97d49ddf3262153e067b", func := "gradine/gradinelaw10.ListEnds", spec := "listEnds", apart := false }
def ListEndsSaid : Prop := listEndsRow.holds Try.pinned (OpenSpec.ofChange listEndsSpec)

/-- ITS FALSE NEIGHBOUR: 'it returns false'. Refute it at one input. -/
def listEndsWrong : ChangeSpec := { name := "listEnds", fn := fun _ => fun
  | [d1, d2, d3] => { results := [.lit (.bool false)], args := [d1, d2, d3] }
  | _ => none }
def ListEndsWrongFalsely : Prop := listEndsRow.holds Try.pinned (OpenSpec.ofChange listEndsWrong)

/-- 'gradinelaw10.ListAhead': WHATEVER THE INPUT: true; the input reads as it did. -/
def listAheadSpec : ChangeSpec := { name := "listAhead", fn := fun _ => fun
  | [d1, d2, d3] => { results := [.lit (.bool true)], args := [d1, d2, d3] }
  | _ => none }
def listAheadRow : OpenClaim := { program := "ytclajmbmchaidaa", sum := "4fbc4e742caf32271efb2a40e1c05449a2d24a47362f97d49ddf3262153e067b", func := "gradine/gradinelaw10.ListAhead", spec := "listAhead", apart := false }
def ListAheadSaid : Prop := listAheadRow.holds Try.pinned (OpenSpec.ofChange listAheadSpec)

/-- ITS FALSE NEIGHBOUR: 'it returns false'. Refute it at one input. -/
def listAheadWrong : ChangeSpec := { name := "listAhead", fn := fun _ => fun
  | [d1, d2, d3] => { results := [.lit (.bool false)], args := [d1, d2, d3] }
  | _ => none }
def ListAheadWrongFalsely : Prop := listAheadRow.holds Try.pinned (OpenSpec.ofChange listAheadWrong)

/-- 'gradinelaw10.ListActs': WHATEVER THE INPUT: true; the input reads as it did. -/
def listActsSpec : ChangeSpec := { name := "listActs", fn := fun _ => fun
  | [d1, d2] => { results := [.lit (.bool true)], args := [d1, d2] }
  | _ => none }
def listActsRow : OpenClaim := { program := "ytclajmbmchaidaa", sum := "4fbc4e742caf32271efb2a40e1c05449a2d24a47362f97d49ddf3262153e067b", func := "gradine/gradinelaw10.ListActs", spec := "listActs", apart := false }
def ListActsSaid : Prop := listActsRow.holds Try.pinned (OpenSpec.ofChange listActsSpec)

/-- ITS FALSE NEIGHBOUR: 'it returns false'. Refute it at one input. -/
def listActsWrong : ChangeSpec := { name := "listActs", fn := fun _ => fun
  | [d1, d2] => { results := [.lit (.bool false)], args := [d1, d2] }
  | _ => none }
def ListActsWrongFalsely : Prop := listActsRow.holds Try.pinned (OpenSpec.ofChange listActsWrong)

/-- 'gradinelaw11.LruKeeps': WHATEVER THE INPUT: true; the input reads as it did. -/
def lruKeepsSpec : ChangeSpec := { name := "lruKeeps", fn := fun _ => fun
  | [d1, d2] => { results := [.lit (.bool true)], args := [d1, d2] }
  | _ => none }
def lruKeepsRow : OpenClaim := { program := "ytclajmbmchaidaa", sum := "4fbc4e742caf32271efb2a40e1c05449a2d24a47362f97d49ddf3262153e067b", func := "gradine/gradinelaw11.LruKeeps", spec := "lruKeeps", apart := false }
def LruKeepsSaid : Prop := lruKeepsRow.holds Try.pinned (OpenSpec.ofChange lruKeepsSpec)

/-- ITS FALSE NEIGHBOUR: 'it returns false'. Refute it at one input. -/
def lruKeepsWrong : ChangeSpec := { name := "lruKeeps", fn := fun _ => fun
  | [d1, d2] => { results := [.lit (.bool false)], args := [d1, d2] }
  | _ => none }
def LruKeepsWrongFalsely : Prop := lruKeepsRow.holds Try.pinned (OpenSpec.ofChange lruKeepsWrong)

/-- 'gradinelaw10.ListNil': WHATEVER THE INPUT: true; the input reads as it did. -/
def listNilSpec : ChangeSpec := { name := "listNil", fn := fun _ => fun
  | [d] => { results := [.lit (.bool true)], args := [d] }
  | _ => none }
def listNilRow : OpenClaim := { program := "ytclajmbmchaidaa", sum := "4fbc4e742caf32271efb2a40e1c05449a2d24a47362f97d49ddf3262153e067b", func := "gradine/gradinelaw10.ListNil", spec := "listNil", apart := false }
def ListNilSaid : Prop := listNilRow.holds Try.pinned (OpenSpec.ofChange listNilSpec)

/-- ITS FALSE NEIGHBOUR: 'it returns false'. Refute it at one input. -/
def listNilWrong : ChangeSpec := { name := "listNil", fn := fun _ => fun
  | [d] => { results := [.lit (.bool false)], args := [d] }
  | _ => none }
def ListNilWrongFalsely : Prop := listNilRow.holds Try.pinned (OpenSpec.ofChange listNilWrong)

/-- 'gradinelaw11.LruBound': WHATEVER THE INPUT: true; the input reads as it did. -/
def lruBoundSpec : ChangeSpec := { name := "lruBound", fn := fun _ => fun
  | [d1, d2] => { results := [.lit (.bool true)], args := [d1, d2] }
  | _ => none }
def lruBoundRow : OpenClaim := { program := "ytclajmbmchaidaa", sum := "4fbc4e742caf32271efb2a40e1c05449a2d24a47362f97d49ddf3262153e067b", func := "gradine/gradinelaw11.LruBound", spec := "lruBound", apart := false }
def LruBoundSaid : Prop := lruBoundRow.holds Try.pinned (OpenSpec.ofChange lruBoundSpec)

/-- ITS FALSE NEIGHBOUR: 'it returns false'. Refute it at one input. -/
def lruBoundWrong : ChangeSpec := { name := "lruBound", fn := fun _ => fun
  | [d1, d2] => { results := [.lit (.bool false)], args := [d1, d2] }
  | _ => none }
def LruBoundWrongFalsely : Prop := lruBoundRow.holds Try.pinned (OpenSpec.ofChange lruBoundWrong)

/-- 'gradinelaw11.LruStack': WHATEVER THE INPUT: true; the input reads as it did. -/
def lruStackSpec : ChangeSpec := { name := "lruStack", fn := fun _ => fun
  | [d1, d2, d3] => { results := [.lit (.bool true)], args := [d1, d2, d3] }
  | _ => none }
def lruStackRow : OpenClaim := { program := "ytclajmbmchaidaa", sum := "4fbc4e742caf32271efb2a40e1c05449a2d24a47362f97d49ddf3262153e067b", func := "gradine/gradinelaw11.LruStack", spec := "lruStack", apart := false }
def LruStackSaid : Prop := lruStackRow.holds Try.pinned (OpenSpec.ofChange lruStackSpec)

/-- ITS FALSE NEIGHBOUR: 'it returns false'. Refute it at one input. -/
def lruStackWrong : ChangeSpec := { name := "lruStack", fn := fun _ => fun
  | [d1, d2, d3] => { results := [.lit (.bool false)], args := [d1, d2, d3] }
  | _ => none }
def LruStackWrongFalsely : Prop := lruStackRow.holds Try.pinned (OpenSpec.ofChange lruStackWrong)

/-- 'gradinelaw11.LruActs': WHATEVER THE INPUT: true; the input reads as it did. -/
def lruActsSpec : ChangeSpec := { name := "lruActs", fn := fun _ => fun
  | [d1, d2] => { results := [.lit (.bool true)], args := [d1, d2] }
  | _ => none }
def lruActsRow : OpenClaim := { program := "ytclajmbmchaidaa", sum := "4fbc4e742caf32271efb2a40e1c05449a2d24a47362f97d49ddf3262153e067b", func := "gradine/gradinelaw11.LruActs", spec := "lruActs", apart := false }
def LruActsSaid : Prop := lruActsRow.holds Try.pinned (OpenSpec.ofChange lruActsSpec)

/-- ITS FALSE NEIGHBOUR: 'it returns false'. Refute it at one input. -/
def lruActsWrong : ChangeSpec := { name := "lruActs", fn := fun _ => fun
  | [d1, d2] => { results := [.lit (.bool false)], args := [d1, d2] }
  | _ => none }
def LruActsWrongFalsely : Prop := lruActsRow.holds Try.pinned (OpenSpec.ofChange lruActsWrong)

/-- 'gradinelaw11.LruNil': WHATEVER THE INPUT: true; the input reads as it did. -/
def lruNilSpec : ChangeSpec := { name := "lruNil", fn := fun _ => fun
  | [d] => { results := [.lit (.bool true)], args := [d] }
  | _ => none }
def lruNilRow : OpenClaim := { program := "ytclajmbmchaidaa", sum := "4fbc4e742caf32271efb2a40e1c05449a2d24a47362f97d49ddf3262153e067b", func := "gradine/gradinelaw11.LruNil", spec := "lruNil", apart := false }
def LruNilSaid : Prop := lruNilRow.holds Try.pinned (OpenSpec.ofChange lruNilSpec)

/-- ITS FALSE NEIGHBOUR: 'it returns false'. Refute it at one input. -/
def lruNilWrong : ChangeSpec := { name := "lruNil", fn := fun _ => fun
  | [d] => { results := [.lit (.bool false)], args := [d] }
  | _ => none }
def LruNilWrongFalsely : Prop := lruNilRow.holds Try.pinned (OpenSpec.ofChange lruNilWrong)

/- THE SECOND FORM. 'bulk': how many values and letters a reading holds, each counted each time it is reached (what is shared counts as often as it is met; a slice's spare places count too). A statement '..UptoSaid' is the law's where the arguments, and the package variables that the reading takes, are together of bulk at most 1048576: NARROWER than '..Said'. Prove '..Said' where nothing that the law and all that it calls make is longer than what came in: it says more and counts as full. Else prove '..UptoSaid'. A law counts once. -/
mutual
def uptoBulk {H : Type} : DataW H → Nat
  | .lit (.string bytes) => bytes.length + 1
  | .lit _ => 1
  | .nil => 1
  | .ptr d => uptoBulk d + 1
  | .slice elems spare => uptoBulkAll elems + uptoBulkAll spare + 1
  | .agg parts => uptoBulkAll parts + 1
  | .iface _ d => uptoBulk d + 1
  | .map entries => uptoBulkEntries entries + 1
  | .held _ => 1
def uptoBulkAll {H : Type} : List (DataW H) → Nat
  | [] => 0
  | d :: r => uptoBulk d + uptoBulkAll r
def uptoBulkEntries {H : Type} : List (Lit × DataW H) → Nat
  | [] => 0
  | x :: r => uptoBulkEntry x + uptoBulkEntries r
def uptoBulkEntry {H : Type} : Lit × DataW H → Nat
  | (.string bytes, d) => bytes.length + uptoBulk d + 1
  | (_, d) => uptoBulk d + 1
 end
def uptoSmall : (H : Type) → List (DataW H) → Bool := fun _ ds => decide (uptoBulkAll ds ≤ 1048576)
def OpenSpec.upto (s : _root_.Go.ChangeSpec) : _root_.Go.OpenSpec := { _root_.Go.OpenSpec.ofChange s with cond := some uptoSmall }

/-- 'gradinelaw10.ListOne', WHERE WHAT IT READS IS OF BULK AT MOST 1048576: true; the input reads as it did. -/
def listOneUptoRow : OpenClaim := { program := "ytclajmbmchaidaa", sum := "4fbc4e742caf32271efb2a40e1c05449a2d24a47362f97d49ddf3262153e067b", func := "gradine/gradinelaw10.ListOne", spec := "listOne", apart := false, narrowed := true }
def ListOneUptoSaid : Prop := listOneUptoRow.holds Try.pinned (OpenSpec.upto listOneSpec)

/-- 'gradinelaw10.ListEnds', WHERE WHAT IT READS IS OF BULK AT MOST 1048576: true; the input reads as it did. -/
def listEndsUptoRow : OpenClaim := { program := "ytclajmbmchaidaa", sum := "4fbc4e742caf32271efb2a40e1c05449a2d24a47362f97d49ddf3262153e067b", func := "gradine/gradinelaw10.ListEnds", spec := "listEnds", apart := false, narrowed := true }
def ListEndsUptoSaid : Prop := listEndsUptoRow.holds Try.pinned (OpenSpec.upto listEndsSpec)

/-- 'gradinelaw10.ListAhead', WHERE WHAT IT READS IS OF BULK AT MOST 1048576: true; the input reads as it did. -/
def listAheadUptoRow : OpenClaim := { program := "ytclajmbmchaidaa", sum := "4fbc4e742caf32271efb2a40e1c05449a2d24a47362f97d49ddf3262153e067b", func := "gradine/gradinelaw10.ListAhead", spec := "listAhead", apart := false, narrowed := true }
def ListAheadUptoSaid : Prop := listAheadUptoRow.holds Try.pinned (OpenSpec.upto listAheadSpec)

/-- 'gradinelaw10.ListActs', WHERE WHAT IT READS IS OF BULK AT MOST 1048576: true; the input reads as it did. -/
def listActsUptoRow : OpenClaim := { program := "ytclajmbmchaidaa", sum := "4fbc4e742caf32271efb2a40e1c05449a2d24a47362f97d49ddf3262153e067b", func := "gradine/gradinelaw10.ListActs", spec := "listActs", apart := false, narrowed := true }
def ListActsUptoSaid : Prop := listActsUptoRow.holds Try.pinned (OpenSpec.upto listActsSpec)

/-- 'gradinelaw11.LruKeeps', WHERE WHAT IT READS IS OF BULK AT MOST 1048576: true; the input reads as it did. -/
def lruKeepsUptoRow : OpenClaim := { program := "ytclajmbmchaidaa", sum := "4fbc4e742caf32271efb2a40e1c05449a2d24a47362f97d49ddf3262153e067b", func := "gradine/gradinelaw11.LruKeeps", spec := "lruKeeps", apart := false, narrowed := true }
def LruKeepsUptoSaid : Prop := lruKeepsUptoRow.holds Try.pinned (OpenSpec.upto lruKeepsSpec)

/-- 'gradinelaw10.ListNil', WHERE WHAT IT READS IS OF BULK AT MOST 1048576: true; the input reads as it did. -/
def listNilUptoRow : OpenClaim := { program := "ytclajmbmchaidaa", sum := "4fbc4e742caf32271efb2a40e1c05449a2d24a47362f97d49ddf3262153e067b", func := "gradine/gradinelaw10.ListNil", spec := "listNil", apart := false, narrowed := true }
def ListNilUptoSaid : Prop := listNilUptoRow.holds Try.pinned (OpenSpec.upto listNilSpec)

/-- 'gradinelaw11.LruBound', WHERE WHAT IT READS IS OF BULK AT MOST 1048576: true; the input reads as it did. -/
def lruBoundUptoRow : OpenClaim := { program := "ytclajmbmchaidaa", sum := "4fbc4e742caf32271efb2a40e1c05449a2d24a47362f97d49ddf3262153e067b", func := "gradine/gradinelaw11.LruBound", spec := "lruBound", apart := false, narrowed := true }
def LruBoundUptoSaid : Prop := lruBoundUptoRow.holds Try.pinned (OpenSpec.upto lruBoundSpec)

/-- 'gradinelaw11.LruStack', WHERE WHAT IT READS IS OF BULK AT MOST 1048576: true; the input reads as it did. -/
def lruStackUptoRow : OpenClaim := { program := "ytclajmbmchaidaa", sum := "4fbc4e742caf32271efb2a40e1c05449a2d24a47362f97d49ddf3262153e067b", func := "gradine/gradinelaw11.LruStack", spec := "lruStack", apart := false, narrowed := true }
def LruStackUptoSaid : Prop := lruStackUptoRow.holds Try.pinned (OpenSpec.upto lruStackSpec)

/-- 'gradinelaw11.LruActs', WHERE WHAT IT READS IS OF BULK AT MOST 1048576: true; the input reads as it did. -/
def lruActsUptoRow : OpenClaim := { program := "ytclajmbmchaidaa", sum := "4fbc4e742caf32271efb2a40e1c05449a2d24a47362f97d49ddf3262153e067b", func := "gradine/gradinelaw11.LruActs", spec := "lruActs", apart := false, narrowed := true }
def LruActsUptoSaid : Prop := lruActsUptoRow.holds Try.pinned (OpenSpec.upto lruActsSpec)

/-- 'gradinelaw11.LruNil', WHERE WHAT IT READS IS OF BULK AT MOST 1048576: true; the input reads as it did. -/
def lruNilUptoRow : OpenClaim := { program := "ytclajmbmchaidaa", sum := "4fbc4e742caf32271efb2a40e1c05449a2d24a47362f97d49ddf3262153e067b", func := "gradine/gradinelaw11.LruNil", spec := "lruNil", apart := false, narrowed := true }
def LruNilUptoSaid : Prop := lruNilUptoRow.holds Try.pinned (OpenSpec.upto lruNilSpec)

end Rows
end Go.Proofs.Ytclajmbmchaidaa
