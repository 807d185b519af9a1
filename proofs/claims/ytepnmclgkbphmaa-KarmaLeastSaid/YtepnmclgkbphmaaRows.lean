/-
  No cell of these rows narrows 'for every input' (looked for: loops, veiled, ifaces, maps, wideKeys, modest, calm, conditions, laid).
  DERIVED. THE GIVEN ROWS OF THIS SEAT. 7 by the template 'for every input the law returns true; each argument reads behind the call as it read before'; 0 by the template 'total and deterministic' (their statements: YtepnmclgkbphmaaTotals.lean).
  GIVEN WITH THE SEED: the statements are not yours to turn. If you find one false, say at which input.
  Laid BY PROGRAM, IN A SANDBOX (cutbox-rows.mjs): the forced cells as the released guide's own fill.sh prints them over the translation a16fea534b3885c8… (all of the seat's roots in one cut). By AI agents, Wed Nov 11 2026. No macro, syntax, notation, axiom, sorry.
-/
import Derived.Test.YtepnmclgkbphmaaChecked
import GoSem.Claim
import GoSem.ClaimJoined
import GoSem.ClaimMapViews
import Derived.JoinedTies
import Derived.KernelRfl
namespace Go.Proofs.Ytepnmclgkbphmaa
/- THE CELL 'sum', in the pinned program and in every row, IS THE sha256 OF THE DUMP (.gsa) THAT YtepnmclgkbphmaaProg.lean LOADS. Nothing in Lean hashes anything: it is a label: what it is worth is what the hold of that sum in a sandbox is worth. -/
noncomputable def Try.pinned : Pinned := { name := "ytepnmclgkbphmaa", sum := "a16fea534b3885c8d55141b4973c080b78268388be96b38fb5475cb116d2bf48", checked := Try.checked }
namespace Rows
def none {H : Type} : Left H := { results := [], args := [] }

/-- 'gradinelaw14.KarmaSets': WHATEVER THE INPUT: true; the input reads as it did. -/
def karmaSetsSpec : ChangeSpec := { name := "karmaSets", fn := fun _ => fun
  | [d1, d2] => { results := [.lit (.bool true)], args := [d1, d2] }
  | _ => none }
def karmaSetsRow : OpenClaim := { program := "ytepnmclgkbphmaa", sum := "a16fea534b3885c8d55141b4973c080b78268388be96b38fb5475cb116d2bf48", func := "gradine/gradinelaw14.KarmaSets", spec := "karmaSets", unfollowed := true, recurses := true, apart := false }
def KarmaSetsSaid : Prop := karmaSetsRow.holds Try.pinned (OpenSpec.ofChange karmaSetsSpec)

/-- ITS FALSE NEIGHBOUR: 'it returns false'. Refute it at one input. -/
def karmaSetsWrong : ChangeSpec := { name := "karmaSets", fn := fun _ => fun
  | [d1, d2] => { results := [.lit (.bool false)], args := [d1, d2] }
  | _ => none }
def KarmaSetsWrongFalsely : Prop := karmaSetsRow.holds Try.pinned (OpenSpec.ofChange karmaSetsWrong)

/-- 'gradinelaw14.KarmaRoom': WHATEVER THE INPUT: true; the input reads as it did. -/
def karmaRoomSpec : ChangeSpec := { name := "karmaRoom", fn := fun _ => fun
  | [d] => { results := [.lit (.bool true)], args := [d] }
  | _ => none }
def karmaRoomRow : OpenClaim := { program := "ytepnmclgkbphmaa", sum := "a16fea534b3885c8d55141b4973c080b78268388be96b38fb5475cb116d2bf48", func := "gradine/gradinelaw14.KarmaRoom", spec := "karmaRoom", unfollowed := true, recurses := true, apart := false }
def KarmaRoomSaid : Prop := karmaRoomRow.holds Try.pinned (OpenSpec.ofChange karmaRoomSpec)

/-- ITS FALSE NEIGHBOUR: 'it returns false'. Refute it at one input. -/
def karmaRoomWrong : ChangeSpec := { name := "karmaRoom", fn := fun _ => fun
  | [d] => { results := [.lit (.bool false)], args := [d] }
  | _ => none }
def KarmaRoomWrongFalsely : Prop := karmaRoomRow.holds Try.pinned (OpenSpec.ofChange karmaRoomWrong)

/-- 'gradinelaw14.KarmaDense': WHATEVER THE INPUT: true; the input reads as it did. -/
def karmaDenseSpec : ChangeSpec := { name := "karmaDense", fn := fun _ => fun
  | [d] => { results := [.lit (.bool true)], args := [d] }
  | _ => none }
def karmaDenseRow : OpenClaim := { program := "ytepnmclgkbphmaa", sum := "a16fea534b3885c8d55141b4973c080b78268388be96b38fb5475cb116d2bf48", func := "gradine/gradinelaw14.KarmaDense", spec := "karmaDense", unfollowed := true, recurses := true, apart := false }
def KarmaDenseSaid : Prop := karmaDenseRow.holds Try.pinned (OpenSpec.ofChange karmaDenseSpec)

/-- ITS FALSE NEIGHBOUR: 'it returns false'. Refute it at one input. -/
def karmaDenseWrong : ChangeSpec := { name := "karmaDense", fn := fun _ => fun
  | [d] => { results := [.lit (.bool false)], args := [d] }
  | _ => none }
def KarmaDenseWrongFalsely : Prop := karmaDenseRow.holds Try.pinned (OpenSpec.ofChange karmaDenseWrong)

/-- 'gradinelaw14.KarmaPlans': WHATEVER THE INPUT: true; the input reads as it did. -/
def karmaPlansSpec : ChangeSpec := { name := "karmaPlans", fn := fun _ => fun
  | [d1, d2, d3] => { results := [.lit (.bool true)], args := [d1, d2, d3] }
  | _ => none }
def karmaPlansRow : OpenClaim := { program := "ytepnmclgkbphmaa", sum := "a16fea534b3885c8d55141b4973c080b78268388be96b38fb5475cb116d2bf48", func := "gradine/gradinelaw14.KarmaPlans", spec := "karmaPlans", unfollowed := true, recurses := true, apart := false }
def KarmaPlansSaid : Prop := karmaPlansRow.holds Try.pinned (OpenSpec.ofChange karmaPlansSpec)

/-- ITS FALSE NEIGHBOUR: 'it returns false'. Refute it at one input. -/
def karmaPlansWrong : ChangeSpec := { name := "karmaPlans", fn := fun _ => fun
  | [d1, d2, d3] => { results := [.lit (.bool false)], args := [d1, d2, d3] }
  | _ => none }
def KarmaPlansWrongFalsely : Prop := karmaPlansRow.holds Try.pinned (OpenSpec.ofChange karmaPlansWrong)

/-- 'gradinelaw14.KarmaNil': WHATEVER THE INPUT: true; the input reads as it did. -/
def karmaNilSpec : ChangeSpec := { name := "karmaNil", fn := fun _ => fun
  | [d1, d2] => { results := [.lit (.bool true)], args := [d1, d2] }
  | _ => none }
def karmaNilRow : OpenClaim := { program := "ytepnmclgkbphmaa", sum := "a16fea534b3885c8d55141b4973c080b78268388be96b38fb5475cb116d2bf48", func := "gradine/gradinelaw14.KarmaNil", spec := "karmaNil", unfollowed := true, recurses := true, apart := false }
def KarmaNilSaid : Prop := karmaNilRow.holds Try.pinned (OpenSpec.ofChange karmaNilSpec)

/-- ITS FALSE NEIGHBOUR: 'it returns false'. Refute it at one input. -/
def karmaNilWrong : ChangeSpec := { name := "karmaNil", fn := fun _ => fun
  | [d1, d2] => { results := [.lit (.bool false)], args := [d1, d2] }
  | _ => none }
def KarmaNilWrongFalsely : Prop := karmaNilRow.holds Try.pinned (OpenSpec.ofChange karmaNilWrong)

/-- 'gradinelaw14.KarmaLeast': WHATEVER THE INPUT: true; the input reads as it did. -/
def karmaLeastSpec : ChangeSpec := { name := "karmaLeast", fn := fun _ => fun
  | [d1, d2] => { results := [.lit (.bool true)], args := [d1, d2] }
  | _ => none }
def karmaLeastRow : OpenClaim := { program := "ytepnmclgkbphmaa", sum := "a16fea534b3885c8d55141b4973c080b78268388be96b38fb5475cb116d2bf48", func := "gradine/gradinelaw14.KarmaLeast", spec := "karmaLeast", unfollowed := true, recurses := true, apart := false }
def KarmaLeastSaid : Prop := karmaLeastRow.holds Try.pinned (OpenSpec.ofChange karmaLeastSpec)

/-- ITS FALSE NEIGHBOUR: 'it returns false'. Refute it at one input. -/
def karmaLeastWrong : ChangeSpec := { name := "karmaLeast", fn := fun _ => fun
  | [d1, d2] => { results := [.lit (.bool false)], args := [d1, d2] }
  | _ => none }
def KarmaLeastWrongFalsely : Prop := karmaLeastRow.holds Try.pinned (OpenSpec.ofChange karmaLeastWrong)

/-- 'gradinelaw14.KarmaCost': WHATEVER THE INPUT: true; the input reads as it did. -/
def karmaCostSpec : ChangeSpec := { name := "karmaCost", fn := fun _ => fun
  | [d1, d2, d3] => { results := [.lit (.bool true)], args := [d1, d2, d3] }
  | _ => none }
def karmaCostRow : OpenClaim := { program := "ytepnmclgkbphmaa", sum := "a16fea534b3885c8d55141b4973c080b78268388be96b38fb5475cb116d2bf48", func := "gradine/gradinelaw14.KarmaCost", spec := "karmaCost", unfollowed := true, recurses := true, apart := false }
def KarmaCostSaid : Prop := karmaCostRow.holds Try.pinned (OpenSpec.ofChange karmaCostSpec)

/-- ITS FALSE NEIGHBOUR: 'it returns false'. Refute it at one input. -/
def karmaCostWrong : ChangeSpec := { name := "karmaCost", fn := fun _ => fun
  | [d1, d2, d3] => { results := [.lit (.bool false)], args := [d1, d2, d3] }
  | _ => none }
def KarmaCostWrongFalsely : Prop := karmaCostRow.holds Try.pinned (OpenSpec.ofChange karmaCostWrong)

/- THE SECOND FORM. 'bulk': how many values and letters a reading holds, each counted each time it is reached (what is shared counts as often as it is met; a slice's spare places count too). A statement '..UptoSaid' is the law's where the arguments, and the package variables that the reading takes, are together of bulk at most 1048576: NARROWER than '..Said'. Prove '..Said' where nothing that the law and all that it calls make is longer than what came in: it says more and counts as full. Else prove '..UptoSaid'. A law counts once. -/
mutual
def uptoBulk {H : Type} : DataW H → Nat
  | .lit (.string bytes) => bytes.length + 1
  | .lit _ => 1
  | .nil => 1
  | .ptr d => uptoBulk d + 1
  | .slice elems spare => uptoBulkAll elems + uptoBulkAll spare + 1
  | .agg parts => uptoBulkAll parts + 1
  | .iface _ d => uptoBulk d + 1
  | .map entries => uptoBulkEntries entries + 1
  | .held _ => 1
def uptoBulkAll {H : Type} : List (DataW H) → Nat
  | [] => 0
  | d :: r => uptoBulk d + uptoBulkAll r
def uptoBulkEntries {H : Type} : List (Lit × DataW H) → Nat
  | [] => 0
  | x :: r => uptoBulkEntry x + uptoBulkEntries r
def uptoBulkEntry {H : Type} : Lit × DataW H → Nat
  | (.string bytes, d) => bytes.length + uptoBulk d + 1
  | (_, d) => uptoBulk d + 1
 end
def uptoSmall : (H : Type) → List (DataW H) → Bool := fun _ ds => decide (uptoBulkAll ds ≤ 1048576)
def OpenSpec.upto (s : _root_.Go.ChangeSpec) : _root_.Go.OpenSpec := { _root_.Go.OpenSpec.ofChange s with cond := some uptoSmall }

/-- 'gradinelaw14.KarmaSets', WHERE WHAT IT READS IS OF BULK AT MOST 1048576: true; the input reads as it did. -/
def karmaSetsUptoRow : OpenClaim := { program := "ytepnmclgkbphmaa", sum := "a16fea534b3885c8d55141b4973c080b78268388be96b38fb5475cb116d2bf48", func := "gradine/gradinelaw14.KarmaSets", spec := "karmaSets", unfollowed := true, recurses := true, apart := false, narrowed := true }
def KarmaSetsUptoSaid : Prop := karmaSetsUptoRow.holds Try.pinned (OpenSpec.upto karmaSetsSpec)

/-- 'gradinelaw14.KarmaRoom', WHERE WHAT IT READS IS OF BULK AT MOST 1048576: true; the input reads as it did. -/
def karmaRoomUptoRow : OpenClaim := { program := "ytepnmclgkbphmaa", sum := "a16fea534b3885c8d55141b4973c080b78268388be96b38fb5475cb116d2bf48", func := "gradine/gradinelaw14.KarmaRoom", spec := "karmaRoom", unfollowed := true, recurses := true, apart := false, narrowed := true }
def KarmaRoomUptoSaid : Prop := karmaRoomUptoRow.holds Try.pinned (OpenSpec.upto karmaRoomSpec)

/-- 'gradinelaw14.KarmaDense', WHERE WHAT IT READS IS OF BULK AT MOST 1048576: true; the input reads as it did. -/
def karmaDenseUptoRow : OpenClaim := { program := "ytepnmclgkbphmaa", sum := "a16fea534b3885c8d55141b4973c080b78268388be96b38fb5475cb116d2bf48", func := "gradine/gradinelaw14.KarmaDense", spec := "karmaDense", unfollowed := true, recurses := true, apart := false, narrowed := true }
def KarmaDenseUptoSaid : Prop := karmaDenseUptoRow.holds Try.pinned (OpenSpec.upto karmaDenseSpec)

/-- 'gradinelaw14.KarmaPlans', WHERE WHAT IT READS IS OF BULK AT MOST 1048576: true; the input reads as it did. -/
def karmaPlansUptoRow : OpenClaim := { program := "ytepnmclgkbphmaa", sum := "a16fea534b3885c8d55141b4973c080b78268388be96b38fb5475cb116d2bf48", func := "gradine/gradinelaw14.KarmaPlans", spec := "karmaPlans", unfollowed := true, recurses := true, apart := false, narrowed := true }
def KarmaPlansUptoSaid : Prop := karmaPlansUptoRow.holds Try.pinned (OpenSpec.upto karmaPlansSpec)

/-- 'gradinelaw14.KarmaNil', WHERE WHAT IT READS IS OF BULK AT MOST 1048576: true; the input reads as it did. -/
def karmaNilUptoRow : OpenClaim := { program := "ytepnmclgkbphmaa", sum := "a16fea534b3885c8d55141b4973c080b78268388be96b38fb5475cb116d2bf48", func := "gradine/gradinelaw14.KarmaNil", spec := "karmaNil", unfollowed := true, recurses := true, apart := false, narrowed := true }
def KarmaNilUptoSaid : Prop := karmaNilUptoRow.holds Try.pinned (OpenSpec.upto karmaNilSpec)

/-- 'gradinelaw14.KarmaLeast', WHERE WHAT IT READS IS OF BULK AT MOST 1048576: true; the input reads as it did. -/
def karmaLeastUptoRow : OpenClaim := { program := "ytepnmclgkbphmaa", sum := "a16fea534b3885c8d55141b4973c080b78268388be96b38fb5475cb116d2bf48", func := "gradine/gradinelaw14.KarmaLeast", spec := "karmaLeast", unfollowed := true, recurses := true, apart := false, narrowed := true }
def KarmaLeastUptoSaid : Prop := karmaLeastUptoRow.holds Try.pinned (OpenSpec.upto karmaLeastSpec)

/-- 'gradinelaw14.KarmaCost', WHERE WHAT IT READS IS OF BULK AT MOST 1048576: true; the input reads as it did. -/
def karmaCostUptoRow : OpenClaim := { program := "ytepnmclgkbphmaa", sum := "a16fea534b3885c8d55141b4973c080b78268388be96b38fb5475cb116d2bf48", func := "gradine/gradinelaw14.KarmaCost", spec := "karmaCost", unfollowed := true, recurses := true, apart := false, narrowed := true }
def KarmaCostUptoSaid : Prop := karmaCostUptoRow.holds Try.pinned (OpenSpec.upto karmaCostSpec)

end Rows
end Go.Proofs.Ytepnmclgkbphmaa
