/-
  No cell of these rows narrows 'for every input' (looked for: loops, veiled, ifaces, maps, wideKeys, modest, calm, conditions, laid).
  DERIVED. THE GIVEN ROWS OF THIS SEAT. 10 by the template 'for every input the law returns true; each argument reads behind the call as it read before'; 0 by the template 'total and deterministic' (their statements: YtibcfmnkpemieaaTotals.lean).
  GIVEN WITH THE SEED: the statements are not yours to turn. If you find one false, say at which input.
  Laid BY PROGRAM, IN A SANDBOX (cutbox-rows.mjs): the forced cells as the released guide's own fill.sh prints them over the translation 1a06140f05008433… (all of the seat's roots in one cut). By AI agents, Wed Nov 11 2026. No macro, syntax, notation, axiom, sorry.
-/
import Derived.Test.YtibcfmnkpemieaaChecked
import GoSem.Claim
import GoSem.ClaimJoined
import GoSem.ClaimMapViews
import Derived.JoinedTies
import Derived.KernelRfl
namespace Go.Proofs.Ytibcfmnkpemieaa
/- THE CELL 'sum', in the pinned program and in every row, IS THE sha256 OF THE DUMP (.gsa) THAT YtibcfmnkpemieaaProg.lean LOADS. Nothing in Lean hashes anything: it is a label: what it is worth is what the hold of that sum in a sandbox is worth. -/
noncomputable def Try.pinned : Pinned := { name := "ytibcfmnkpemieaa", sum := "1a06140f05008433f5af89eb0ffdbef5c4c328fe85cb192eff1d32a530310671", checked := Try.checked }
namespace Rows
def none {H : Type} : Left H := { results := [], args := [] }

/-- 'gradinelaw13.UniBound': WHATEVER THE INPUT: true; the input reads as it did. -/
def uniBoundSpec : ChangeSpec := { name := "uniBound", fn := fun _ => fun
  | [d1, d2] => { results := [.lit (.bool true)], args := [d1, d2] }
  | _ => none }
def uniBoundRow : OpenClaim := { program := "ytibcfmnkpemieaa", sum := "1a06140f05008433f5af89eb0ffdbef5c4c328fe85cb192eff1d32a530310671", func := "gradine/gradinelaw13.UniBound", spec := "uniBound", apart := false }
def UniBoundSaid : Prop := uniBoundRow.holds Try.pinned (OpenSpec.ofChange uniBoundSpec)

/-- ITS FALSE NEIGHBOUR: 'it returns false'. Refute it at one input. -/
def uniBoundWrong : ChangeSpec := { name := "uniBound", fn := fun _ => fun
  | [d1, d2] => { results := [.lit (.bool false)], args := [d1, d2] }
  | _ => none }
def UniBoundWrongFalsely : Prop := uniBoundRow.holds Try.pinned (OpenSpec.ofChange uniBoundWrong)

/-- 'gradinelaw13.UniMoves': WHATEVER THE INPUT: true; the input reads as it did. -/
def uniMovesSpec : ChangeSpec := { name := "uniMoves", fn := fun _ => fun
  | [d1, d2] => { results := [.lit (.bool true)], args := [d1, d2] }
  | _ => none }
def uniMovesRow : OpenClaim := { program := "ytibcfmnkpemieaa", sum := "1a06140f05008433f5af89eb0ffdbef5c4c328fe85cb192eff1d32a530310671", func := "gradine/gradinelaw13.UniMoves", spec := "uniMoves", apart := false }
def UniMovesSaid : Prop := uniMovesRow.holds Try.pinned (OpenSpec.ofChange uniMovesSpec)

/-- ITS FALSE NEIGHBOUR: 'it returns false'. Refute it at one input. -/
def uniMovesWrong : ChangeSpec := { name := "uniMoves", fn := fun _ => fun
  | [d1, d2] => { results := [.lit (.bool false)], args := [d1, d2] }
  | _ => none }
def UniMovesWrongFalsely : Prop := uniMovesRow.holds Try.pinned (OpenSpec.ofChange uniMovesWrong)

/-- 'gradinelaw13.UniAgain': WHATEVER THE INPUT: true; the input reads as it did. -/
def uniAgainSpec : ChangeSpec := { name := "uniAgain", fn := fun _ => fun
  | [d1, d2, d3] => { results := [.lit (.bool true)], args := [d1, d2, d3] }
  | _ => none }
def uniAgainRow : OpenClaim := { program := "ytibcfmnkpemieaa", sum := "1a06140f05008433f5af89eb0ffdbef5c4c328fe85cb192eff1d32a530310671", func := "gradine/gradinelaw13.UniAgain", spec := "uniAgain", apart := false }
def UniAgainSaid : Prop := uniAgainRow.holds Try.pinned (OpenSpec.ofChange uniAgainSpec)

/-- ITS FALSE NEIGHBOUR: 'it returns false'. Refute it at one input. -/
def uniAgainWrong : ChangeSpec := { name := "uniAgain", fn := fun _ => fun
  | [d1, d2, d3] => { results := [.lit (.bool false)], args := [d1, d2, d3] }
  | _ => none }
def UniAgainWrongFalsely : Prop := uniAgainRow.holds Try.pinned (OpenSpec.ofChange uniAgainWrong)

/-- 'gradinelaw13.UniActs': WHATEVER THE INPUT: true; the input reads as it did. -/
def uniActsSpec : ChangeSpec := { name := "uniActs", fn := fun _ => fun
  | [d1, d2] => { results := [.lit (.bool true)], args := [d1, d2] }
  | _ => none }
def uniActsRow : OpenClaim := { program := "ytibcfmnkpemieaa", sum := "1a06140f05008433f5af89eb0ffdbef5c4c328fe85cb192eff1d32a530310671", func := "gradine/gradinelaw13.UniActs", spec := "uniActs", apart := false }
def UniActsSaid : Prop := uniActsRow.holds Try.pinned (OpenSpec.ofChange uniActsSpec)

/-- ITS FALSE NEIGHBOUR: 'it returns false'. Refute it at one input. -/
def uniActsWrong : ChangeSpec := { name := "uniActs", fn := fun _ => fun
  | [d1, d2] => { results := [.lit (.bool false)], args := [d1, d2] }
  | _ => none }
def UniActsWrongFalsely : Prop := uniActsRow.holds Try.pinned (OpenSpec.ofChange uniActsWrong)

/-- 'gradinelaw13.UniNil': WHATEVER THE INPUT: true; the input reads as it did. -/
def uniNilSpec : ChangeSpec := { name := "uniNil", fn := fun _ => fun
  | [d] => { results := [.lit (.bool true)], args := [d] }
  | _ => none }
def uniNilRow : OpenClaim := { program := "ytibcfmnkpemieaa", sum := "1a06140f05008433f5af89eb0ffdbef5c4c328fe85cb192eff1d32a530310671", func := "gradine/gradinelaw13.UniNil", spec := "uniNil", apart := false }
def UniNilSaid : Prop := uniNilRow.holds Try.pinned (OpenSpec.ofChange uniNilSpec)

/-- ITS FALSE NEIGHBOUR: 'it returns false'. Refute it at one input. -/
def uniNilWrong : ChangeSpec := { name := "uniNil", fn := fun _ => fun
  | [d] => { results := [.lit (.bool false)], args := [d] }
  | _ => none }
def UniNilWrongFalsely : Prop := uniNilRow.holds Try.pinned (OpenSpec.ofChange uniNilWrong)

/-- 'gradinelaw12.MqQueues': WHATEVER THE INPUT: true; the input reads as it did. -/
def mqQueuesSpec : ChangeSpec := { name := "mqQueues", fn := fun _ => fun
  | [d1, d2] => { results := [.lit (.bool true)], args := [d1, d2] }
  | _ => none }
def mqQueuesRow : OpenClaim := { program := "ytibcfmnkpemieaa", sum := "1a06140f05008433f5af89eb0ffdbef5c4c328fe85cb192eff1d32a530310671", func := "gradine/gradinelaw12.MqQueues", spec := "mqQueues", apart := false }
def MqQueuesSaid : Prop := mqQueuesRow.holds Try.pinned (OpenSpec.ofChange mqQueuesSpec)

/-- ITS FALSE NEIGHBOUR: 'it returns false'. Refute it at one input. -/
def mqQueuesWrong : ChangeSpec := { name := "mqQueues", fn := fun _ => fun
  | [d1, d2] => { results := [.lit (.bool false)], args := [d1, d2] }
  | _ => none }
def MqQueuesWrongFalsely : Prop := mqQueuesRow.holds Try.pinned (OpenSpec.ofChange mqQueuesWrong)

/-- 'gradinelaw12.MqOne': WHATEVER THE INPUT: true; the input reads as it did. -/
def mqOneSpec : ChangeSpec := { name := "mqOne", fn := fun _ => fun
  | [d1, d2] => { results := [.lit (.bool true)], args := [d1, d2] }
  | _ => none }
def mqOneRow : OpenClaim := { program := "ytibcfmnkpemieaa", sum := "1a06140f05008433f5af89eb0ffdbef5c4c328fe85cb192eff1d32a530310671", func := "gradine/gradinelaw12.MqOne", spec := "mqOne", apart := false }
def MqOneSaid : Prop := mqOneRow.holds Try.pinned (OpenSpec.ofChange mqOneSpec)

/-- ITS FALSE NEIGHBOUR: 'it returns false'. Refute it at one input. -/
def mqOneWrong : ChangeSpec := { name := "mqOne", fn := fun _ => fun
  | [d1, d2] => { results := [.lit (.bool false)], args := [d1, d2] }
  | _ => none }
def MqOneWrongFalsely : Prop := mqOneRow.holds Try.pinned (OpenSpec.ofChange mqOneWrong)

/-- 'gradinelaw12.MqBound': WHATEVER THE INPUT: true; the input reads as it did. -/
def mqBoundSpec : ChangeSpec := { name := "mqBound", fn := fun _ => fun
  | [d1, d2] => { results := [.lit (.bool true)], args := [d1, d2] }
  | _ => none }
def mqBoundRow : OpenClaim := { program := "ytibcfmnkpemieaa", sum := "1a06140f05008433f5af89eb0ffdbef5c4c328fe85cb192eff1d32a530310671", func := "gradine/gradinelaw12.MqBound", spec := "mqBound", apart := false }
def MqBoundSaid : Prop := mqBoundRow.holds Try.pinned (OpenSpec.ofChange mqBoundSpec)

/-- ITS FALSE NEIGHBOUR: 'it returns false'. Refute it at one input. -/
def mqBoundWrong : ChangeSpec := { name := "mqBound", fn := fun _ => fun
  | [d1, d2] => { results := [.lit (.bool false)], args := [d1, d2] }
  | _ => none }
def MqBoundWrongFalsely : Prop := mqBoundRow.holds Try.pinned (OpenSpec.ofChange mqBoundWrong)

/-- 'gradinelaw12.MqActs': WHATEVER THE INPUT: true; the input reads as it did. -/
def mqActsSpec : ChangeSpec := { name := "mqActs", fn := fun _ => fun
  | [d1, d2] => { results := [.lit (.bool true)], args := [d1, d2] }
  | _ => none }
def mqActsRow : OpenClaim := { program := "ytibcfmnkpemieaa", sum := "1a06140f05008433f5af89eb0ffdbef5c4c328fe85cb192eff1d32a530310671", func := "gradine/gradinelaw12.MqActs", spec := "mqActs", apart := false }
def MqActsSaid : Prop := mqActsRow.holds Try.pinned (OpenSpec.ofChange mqActsSpec)

/-- ITS FALSE NEIGHBOUR: 'it returns false'. Refute it at one input. -/
def mqActsWrong : ChangeSpec := { name := "mqActs", fn := fun _ => fun
  | [d1, d2] => { results := [.lit (.bool false)], args := [d1, d2] }
  | _ => none }
def MqActsWrongFalsely : Prop := mqActsRow.holds Try.pinned (OpenSpec.ofChange mqActsWrong)

/-- 'gradinelaw12.MqNil': WHATEVER THE INPUT: true; the input reads as it did. -/
def mqNilSpec : ChangeSpec := { name := "mqNil", fn := fun _ => fun
  | [d] => { results := [.lit (.bool true)], args := [d] }
  | _ => none }
def mqNilRow : OpenClaim := { program := "ytibcfmnkpemieaa", sum := "1a06140f05008433f5af89eb0ffdbef5c4c328fe85cb192eff1d32a530310671", func := "gradine/gradinelaw12.MqNil", spec := "mqNil", apart := false }
def MqNilSaid : Prop := mqNilRow.holds Try.pinned (OpenSpec.ofChange mqNilSpec)

/-- ITS FALSE NEIGHBOUR: 'it returns false'. Refute it at one input. -/
def mqNilWrong : ChangeSpec := { name := "mqNil", fn := fun _ => fun
  | [d] => { results := [.lit (.bool false)], args := [d] }
  | _ => none }
def MqNilWrongFalsely : Prop := mqNilRow.holds Try.pinned (OpenSpec.ofChange mqNilWrong)

/- THE SECOND FORM. 'bulk': how many values and letters a reading holds, each counted each time it is reached (what is shared counts as often as it is met; a slice's spare places count too). A statement '..UptoSaid' is the law's where the arguments, and the package variables that the reading takes, are together of bulk at most 1048576: NARROWER than '..Said'. Prove '..Said' where nothing that the law and all that it calls make is longer than what came in: it says more and counts as full. Else prove '..UptoSaid'. A law counts once. -/
mutual
def uptoBulk {H : Type} : DataW H → Nat
  | .lit (.string bytes) => bytes.length + 1
  | .lit _ => 1
  | .nil => 1
  | .ptr d => uptoBulk d + 1
  | .slice elems spare => uptoBulkAll elems + uptoBulkAll spare + 1
  | .agg parts => uptoBulkAll parts + 1
  | .iface _ d => uptoBulk d + 1
  | .map entries => uptoBulkEntries entries + 1
  | .held _ => 1
def uptoBulkAll {H : Type} : List (DataW H) → Nat
  | [] => 0
  | d :: r => uptoBulk d + uptoBulkAll r
def uptoBulkEntries {H : Type} : List (Lit × DataW H) → Nat
  | [] => 0
  | x :: r => uptoBulkEntry x + uptoBulkEntries r
def uptoBulkEntry {H : Type} : Lit × DataW H → Nat
  | (.string bytes, d) => bytes.length + uptoBulk d + 1
  | (_, d) => uptoBulk d + 1
 end
def uptoSmall : (H : Type) → List (DataW H) → Bool := fun _ ds => decide (uptoBulkAll ds ≤ 1048576)
def OpenSpec.upto (s : _root_.Go.ChangeSpec) : _root_.Go.OpenSpec := { _root_.Go.OpenSpec.ofChange s with cond := some uptoSmall }

/-- 'gradinelaw13.UniBound', WHERE WHAT IT READS IS OF BULK AT MOST 1048576: true; the input reads as it did. -/
def uniBoundUptoRow : OpenClaim := { program := "ytibcfmnkpemieaa", sum := "1a06140f05008433f5af89eb0ffdbef5c4c328fe85cb192eff1d32a530310671", func := "gradine/gradinelaw13.UniBound", spec := "uniBound", apart := false, narrowed := true }
def UniBoundUptoSaid : Prop := uniBoundUptoRow.holds Try.pinned (OpenSpec.upto uniBoundSpec)

/-- 'gradinelaw13.UniMoves', WHERE WHAT IT READS IS OF BULK AT MOST 1048576: true; the input reads as it did. -/
def uniMovesUptoRow : OpenClaim := { program := "ytibcfmnkpemieaa", sum := "1a06140f05008433f5af89eb0ffdbef5c4c328fe85cb192eff1d32a530310671", func := "gradine/gradinelaw13.UniMoves", spec := "uniMoves", apart := false, narrowed := true }
def UniMovesUptoSaid : Prop := uniMovesUptoRow.holds Try.pinned (OpenSpec.upto uniMovesSpec)

/-- 'gradinelaw13.UniAgain', WHERE WHAT IT READS IS OF BULK AT MOST 1048576: true; the input reads as it did. -/
def uniAgainUptoRow : OpenClaim := { program := "ytibcfmnkpemieaa", sum := "1a06140f05008433f5af89eb0ffdbef5c4c328fe85cb192eff1d32a530310671", func := "gradine/gradinelaw13.UniAgain", spec := "uniAgain", apart := false, narrowed := true }
def UniAgainUptoSaid : Prop := uniAgainUptoRow.holds Try.pinned (OpenSpec.upto uniAgainSpec)

/-- 'gradinelaw13.UniActs', WHERE WHAT IT READS IS OF BULK AT MOST 1048576: true; the input reads as it did. -/
def uniActsUptoRow : OpenClaim := { program := "ytibcfmnkpemieaa", sum := "1a06140f05008433f5af89eb0ffdbef5c4c328fe85cb192eff1d32a530310671", func := "gradine/gradinelaw13.UniActs", spec := "uniActs", apart := false, narrowed := true }
def UniActsUptoSaid : Prop := uniActsUptoRow.holds Try.pinned (OpenSpec.upto uniActsSpec)

/-- 'gradinelaw13.UniNil', WHERE WHAT IT READS IS OF BULK AT MOST 1048576: true; the input reads as it did. -/
def uniNilUptoRow : OpenClaim := { program := "ytibcfmnkpemieaa", sum := "1a06140f05008433f5af89eb0ffdbef5c4c328fe85cb192eff1d32a530310671", func := "gradine/gradinelaw13.UniNil", spec := "uniNil", apart := false, narrowed := true }
def UniNilUptoSaid : Prop := uniNilUptoRow.holds Try.pinned (OpenSpec.upto uniNilSpec)

/-- 'gradinelaw12.MqQueues', WHERE WHAT IT READS IS OF BULK AT MOST 1048576: true; the input reads as it did. -/
def mqQueuesUptoRow : OpenClaim := { program := "ytibcfmnkpemieaa", sum := "1a06140f05008433f5af89eb0ffdbef5c4c328fe85cb192eff1d32a530310671", func := "gradine/gradinelaw12.MqQueues", spec := "mqQueues", apart := false, narrowed := true }
def MqQueuesUptoSaid : Prop := mqQueuesUptoRow.holds Try.pinned (OpenSpec.upto mqQueuesSpec)

/-- 'gradinelaw12.MqOne', WHERE WHAT IT READS IS OF BULK AT MOST 1048576: true; the input reads as it did. -/
def mqOneUptoRow : OpenClaim := { program := "ytibcfmnkpemieaa", sum := "1a06140f05008433f5af89eb0ffdbef5c4c328fe85cb192eff1d32a530310671", func := "gradine/gradinelaw12.MqOne", spec := "mqOne", apart := false, narrowed := true }
def MqOneUptoSaid : Prop := mqOneUptoRow.holds Try.pinned (OpenSpec.upto mqOneSpec)

/-- 'gradinelaw12.MqBound', WHERE WHAT IT READS IS OF BULK AT MOST 1048576: true; the input reads as it did. -/
def mqBoundUptoRow : OpenClaim := { program := "ytibcfmnkpemieaa", sum := "1a06140f05008433f5af89eb0ffdbef5c4c328fe85cb192eff1d32a530310671", func := "gradine/gradinelaw12.MqBound", spec := "mqBound", apart := false, narrowed := true }
def MqBoundUptoSaid : Prop := mqBoundUptoRow.holds Try.pinned (OpenSpec.upto mqBoundSpec)

/-- 'gradinelaw12.MqActs', WHERE WHAT IT READS IS OF BULK AT MOST 1048576: true; the input reads as it did. -/
def mqActsUptoRow : OpenClaim := { program := "ytibcfmnkpemieaa", sum := "1a06140f05008433f5af89eb0ffdbef5c4c328fe85cb192eff1d32a530310671", func := "gradine/gradinelaw12.MqActs", spec := "mqActs", apart := false, narrowed := true }
def MqActsUptoSaid : Prop := mqActsUptoRow.holds Try.pinned (OpenSpec.upto mqActsSpec)

/-- 'gradinelaw12.MqNil', WHERE WHAT IT READS IS OF BULK AT MOST 1048576: true; the input reads as it did. -/
def mqNilUptoRow : OpenClaim := { program := "ytibcfmnkpemieaa", sum := "1a06140f05008433f5af89eb0ffdbef5c4c328fe85cb192eff1d32a530310671", func := "gradine/gradinelaw12.MqNil", spec := "mqNil", apart := false, narrowed := true }
def MqNilUptoSaid : Prop := mqNilUptoRow.holds Try.pinned (OpenSpec.upto mqNilSpec)

end Rows
end Go.Proofs.Ytibcfmnkpemieaa
