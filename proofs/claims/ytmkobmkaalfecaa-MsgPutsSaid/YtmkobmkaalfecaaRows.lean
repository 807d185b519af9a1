/-
  No cell of these rows narrows 'for every input' (looked for: loops, veiled, ifaces, maps, wideKeys, modest, calm, conditions, laid).
  DERIVED. THE GIVEN ROWS OF THIS SEAT. 14 by the template 'for every input the law returns true; each argument reads behind the call as it read before'; 0 by the template 'total and deterministic' (their statements: YtmkobmkaalfecaaTotals.lean).
  GIVEN WITH THE SEED: the statements are not yours to turn. If you find one false, say at which input.
  Laid BY PROGRAM, IN A SANDBOX (cutbox-rows.mjs): the forced cells as the released guide's own fill.sh prints them over the translation f77c57e6f763e7ca… (all of the seat's roots in one cut). By AI agents, Wed Nov 11 2026. No macro, syntax, notation, axiom, sorry.
-/
import Derived.Test.YtmkobmkaalfecaaChecked
import GoSem.Claim
import GoSem.ClaimJoined
import GoSem.ClaimMapViews
import Derived.JoinedTies
import Derived.KernelRfl
namespace Go.Proofs.Ytmkobmkaalfecaa
/- THE CELL 'sum', in the pinned program and in every row, IS THE sha256 OF THE DUMP (.gsa) THAT YtmkobmkaalfecaaProg.lean LOADS. Nothing in Lean hashes anything: it is a label: what it is worth is what the hold of that sum in a sandbox is worth. -/
noncomputable def Try.pinned : Pinned := { name := "ytmkobmkaalfecaa", sum := "f77c57e6f763e7ca41a4665532d440341a25fe8cfe6bf14ebf09feea3bc564aa", checked := Try.checked }
namespace Rows
def none {H : Type} : Left H := { results := [], args := [] }

/-- 'gradinelaw01.RawSize': WHATEVER THE INPUT: true; the input reads as it did. -/
def rawSizeSpec : ChangeSpec := { name := "rawSize", fn := fun _ => fun
  | [d] => { results := [.lit (.bool true)], args := [d] }
  | _ => none }
def rawSizeRow : OpenClaim := { program := "ytmkobmkaalfecaa", sum := "f77c57e6f763e7ca41a4665532d440341a25fe8cfe6bf14ebf09feea3bc564aa", func := "gradine/gradinelaw01.RawSize", spec := "rawSize", apart := false }
def RawSizeSaid : Prop := rawSizeRow.holds Try.pinned (OpenSpec.ofChange rawSizeSpec)

/-- ITS FALSE NEIGHBOUR: 'it returns false'. Refute it at one input. -/
def rawSizeWrong : ChangeSpec := { name := "rawSize", fn := fun _ => fun
  | [d] => { results := [.lit (.bool false)], args := [d] }
  | _ => none }
def RawSizeWrongFalsely : Prop := rawSizeRow.holds Try.pinned (OpenSpec.ofChange rawSizeWrong)

/-- 'gradinelaw01.RawPuts': WHATEVER THE INPUT: true; the input reads as it did. -/
def rawPutsSpec : ChangeSpec := { name := "rawPuts", fn := fun _ => fun
  | [d1, d2, d3] => { results := [.lit (.bool true)], args := [d1, d2, d3] }
  | _ => none }
def rawPutsRow : OpenClaim := { program := "ytmkobmkaalfecaa", sum := "f77c57e6f763e7ca41a4665532d440341a25fe8cfe6bf14ebf09feea3bc564aa", func := "gradine/gradinelaw01.RawPuts", spec := "rawPuts", apart := false }
def RawPutsSaid : Prop := rawPutsRow.holds Try.pinned (OpenSpec.ofChange rawPutsSpec)

/-- ITS FALSE NEIGHBOUR: 'it returns false'. Refute it at one input. -/
def rawPutsWrong : ChangeSpec := { name := "rawPuts", fn := fun _ => fun
  | [d1, d2, d3] => { results := [.lit (.bool false)], args := [d1, d2, d3] }
  | _ => none }
def RawPutsWrongFalsely : Prop := rawPutsRow.holds Try.pinned (OpenSpec.ofChange rawPutsWrong)

/-- 'gradinelaw03.ConfTurned': WHATEVER THE INPUT: true; the input reads as it did. -/
def confTurnedSpec : ChangeSpec := { name := "confTurned", fn := fun _ => fun
  | [d1, d2, d3] => { results := [.lit (.bool true)], args := [d1, d2, d3] }
  | _ => none }
def confTurnedRow : OpenClaim := { program := "ytmkobmkaalfecaa", sum := "f77c57e6f763e7ca41a4665532d440341a25fe8cfe6bf14ebf09feea3bc564aa", func := "gradine/gradinelaw03.ConfTurned", spec := "confTurned", apart := false }
def ConfTurnedSaid : Prop := confTurnedRow.holds Try.pinned (OpenSpec.ofChange confTurnedSpec)

/-- ITS FALSE NEIGHBOUR: 'it returns false'. Refute it at one input. -/
def confTurnedWrong : ChangeSpec := { name := "confTurned", fn := fun _ => fun
  | [d1, d2, d3] => { results := [.lit (.bool false)], args := [d1, d2, d3] }
  | _ => none }
def ConfTurnedWrongFalsely : Prop := confTurnedRow.holds Try.pinned (OpenSpec.ofChange confTurnedWrong)

/-- 'gradinelaw01.RawOne': WHATEVER THE INPUT: true; the input reads as it did. -/
def rawOneSpec : ChangeSpec := { name := "rawOne", fn := fun _ => fun
  | [d] => { results := [.lit (.bool true)], args := [d] }
  | _ => none }
def rawOneRow : OpenClaim := { program := "ytmkobmkaalfecaa", sum := "f77c57e6f763e7ca41a4665532d440341a25fe8cfe6bf14ebf09feea3bc564aa", func := "gradine/gradinelaw01.RawOne", spec := "rawOne", apart := false }
def RawOneSaid : Prop := rawOneRow.holds Try.pinned (OpenSpec.ofChange rawOneSpec)

/-- ITS FALSE NEIGHBOUR: 'it returns false'. Refute it at one input. -/
def rawOneWrong : ChangeSpec := { name := "rawOne", fn := fun _ => fun
  | [d] => { results := [.lit (.bool false)], args := [d] }
  | _ => none }
def RawOneWrongFalsely : Prop := rawOneRow.holds Try.pinned (OpenSpec.ofChange rawOneWrong)

/-- 'gradinelaw01.RawBack': WHATEVER THE INPUT: true; the input reads as it did. -/
def rawBackSpec : ChangeSpec := { name := "rawBack", fn := fun _ => fun
  | [d1, d2, d3] => { results := [.lit (.bool true)], args := [d1, d2, d3] }
  | _ => none }
def rawBackRow : OpenClaim := { program := "ytmkobmkaalfecaa", sum := "f77c57e6f763e7ca41a4665532d440341a25fe8cfe6bf14ebf09feea3bc564aa", func := "gradine/gradinelaw01.RawBack", spec := "rawBack", apart := false }
def RawBackSaid : Prop := rawBackRow.holds Try.pinned (OpenSpec.ofChange rawBackSpec)

/-- ITS FALSE NEIGHBOUR: 'it returns false'. Refute it at one input. -/
def rawBackWrong : ChangeSpec := { name := "rawBack", fn := fun _ => fun
  | [d1, d2, d3] => { results := [.lit (.bool false)], args := [d1, d2, d3] }
  | _ => none }
def RawBackWrongFalsely : Prop := rawBackRow.holds Try.pinned (OpenSpec.ofChange rawBackWrong)

/-- 'gradinelaw07.FramePuts': WHATEVER THE INPUT: true; the input reads as it did. -/
def framePutsSpec : ChangeSpec := { name := "framePuts", fn := fun _ => fun
  | [d] => { results := [.lit (.bool true)], args := [d] }
  | _ => none }
def framePutsRow : OpenClaim := { program := "ytmkobmkaalfecaa", sum := "f77c57e6f763e7ca41a4665532d440341a25fe8cfe6bf14ebf09feea3bc564aa", func := "gradine/gradinelaw07.FramePuts", spec := "framePuts", apart := false }
def FramePutsSaid : Prop := framePutsRow.holds Try.pinned (OpenSpec.ofChange framePutsSpec)

/-- ITS FALSE NEIGHBOUR: 'it returns false'. Refute it at one input. -/
def framePutsWrong : ChangeSpec := { name := "framePuts", fn := fun _ => fun
  | [d] => { results := [.lit (.bool false)], args := [d] }
  | _ => none }
def FramePutsWrongFalsely : Prop := framePutsRow.holds Try.pinned (OpenSpec.ofChange framePutsWrong)

/-- 'gradinelaw07.FrameTurned': WHATEVER THE INPUT: true; the input reads as it did. -/
def frameTurnedSpec : ChangeSpec := { name := "frameTurned", fn := fun _ => fun
  | [d1, d2, d3] => { results := [.lit (.bool true)], args := [d1, d2, d3] }
  | _ => none }
def frameTurnedRow : OpenClaim := { program := "ytmkobmkaalfecaa", sum := "f77c57e6f763e7ca41a4665532d440341a25fe8cfe6bf14ebf09feea3bc564aa", func := "gradine/gradinelaw07.FrameTurned", spec := "frameTurned", apart := false }
def FrameTurnedSaid : Prop := frameTurnedRow.holds Try.pinned (OpenSpec.ofChange frameTurnedSpec)

/-- ITS FALSE NEIGHBOUR: 'it returns false'. Refute it at one input. -/
def frameTurnedWrong : ChangeSpec := { name := "frameTurned", fn := fun _ => fun
  | [d1, d2, d3] => { results := [.lit (.bool false)], args := [d1, d2, d3] }
  | _ => none }
def FrameTurnedWrongFalsely : Prop := frameTurnedRow.holds Try.pinned (OpenSpec.ofChange frameTurnedWrong)

/-- 'gradinelaw07.FrameLast': WHATEVER THE INPUT: true; the input reads as it did. -/
def frameLastSpec : ChangeSpec := { name := "frameLast", fn := fun _ => fun
  | [d1, d2] => { results := [.lit (.bool true)], args := [d1, d2] }
  | _ => none }
def frameLastRow : OpenClaim := { program := "ytmkobmkaalfecaa", sum := "f77c57e6f763e7ca41a4665532d440341a25fe8cfe6bf14ebf09feea3bc564aa", func := "gradine/gradinelaw07.FrameLast", spec := "frameLast", apart := false }
def FrameLastSaid : Prop := frameLastRow.holds Try.pinned (OpenSpec.ofChange frameLastSpec)

/-- ITS FALSE NEIGHBOUR: 'it returns false'. Refute it at one input. -/
def frameLastWrong : ChangeSpec := { name := "frameLast", fn := fun _ => fun
  | [d1, d2] => { results := [.lit (.bool false)], args := [d1, d2] }
  | _ => none }
def FrameLastWrongFalsely : Prop := frameLastRow.holds Try.pinned (OpenSpec.ofChange frameLastWrong)

/-- 'gradinelaw04.MsgFields': WHATEVER THE INPUT: true; the input reads as it did. -/
def msgFieldsSpec : ChangeSpec := { name := "msgFields", fn := fun _ => fun
  | [d1, d2] => { results := [.lit (.bool true)], args := [d1, d2] }
  | _ => none }
def msgFieldsRow : OpenClaim := { program := "ytmkobmkaalfecaa", sum := "f77c57e6f763e7ca41a4665532d440341a25fe8cfe6bf14ebf09feea3bc564aa", func := "gradine/gradinelaw04.MsgFields", spec := "msgFields", apart := false }
def MsgFieldsSaid : Prop := msgFieldsRow.holds Try.pinned (OpenSpec.ofChange msgFieldsSpec)

/-- ITS FALSE NEIGHBOUR: 'it returns false'. Refute it at one input. -/
def msgFieldsWrong : ChangeSpec := { name := "msgFields", fn := fun _ => fun
  | [d1, d2] => { results := [.lit (.bool false)], args := [d1, d2] }
  | _ => none }
def MsgFieldsWrongFalsely : Prop := msgFieldsRow.holds Try.pinned (OpenSpec.ofChange msgFieldsWrong)

/-- 'gradinelaw04.MsgLeast': WHATEVER THE INPUT: true; the input reads as it did. -/
def msgLeastSpec : ChangeSpec := { name := "msgLeast", fn := fun _ => fun
  | [d] => { results := [.lit (.bool true)], args := [d] }
  | _ => none }
def msgLeastRow : OpenClaim := { program := "ytmkobmkaalfecaa", sum := "f77c57e6f763e7ca41a4665532d440341a25fe8cfe6bf14ebf09feea3bc564aa", func := "gradine/gradinelaw04.MsgLeast", spec := "msgLeast", apart := false }
def MsgLeastSaid : Prop := msgLeastRow.holds Try.pinned (OpenSpec.ofChange msgLeastSpec)

/-- ITS FALSE NEIGHBOUR: 'it returns false'. Refute it at one input. -/
def msgLeastWrong : ChangeSpec := { name := "msgLeast", fn := fun _ => fun
  | [d] => { results := [.lit (.bool false)], args := [d] }
  | _ => none }
def MsgLeastWrongFalsely : Prop := msgLeastRow.holds Try.pinned (OpenSpec.ofChange msgLeastWrong)

/-- 'gradinelaw03.ConfPuts': WHATEVER THE INPUT: true; the input reads as it did. -/
def confPutsSpec : ChangeSpec := { name := "confPuts", fn := fun _ => fun
  | [d] => { results := [.lit (.bool true)], args := [d] }
  | _ => none }
def confPutsRow : OpenClaim := { program := "ytmkobmkaalfecaa", sum := "f77c57e6f763e7ca41a4665532d440341a25fe8cfe6bf14ebf09feea3bc564aa", func := "gradine/gradinelaw03.ConfPuts", spec := "confPuts", apart := false }
def ConfPutsSaid : Prop := confPutsRow.holds Try.pinned (OpenSpec.ofChange confPutsSpec)

/-- ITS FALSE NEIGHBOUR: 'it returns false'. Refute it at one input. -/
def confPutsWrong : ChangeSpec := { name := "confPuts", fn := fun _ => fun
  | [d] => { results := [.lit (.bool false)], args := [d] }
  | _ => none }
def ConfPutsWrongFalsely : Prop := confPutsRow.holds Try.pinned (OpenSpec.ofChange confPutsWrong)

/-- 'gradinelaw03.ConfCut': WHATEVER THE INPUT: true; the input reads as it did. -/
def confCutSpec : ChangeSpec := { name := "confCut", fn := fun _ => fun
  | [d1, d2, d3] => { results := [.lit (.bool true)], args := [d1, d2, d3] }
  | _ => none }
def confCutRow : OpenClaim := { program := "ytmkobmkaalfecaa", sum := "f77c57e6f763e7ca41a4665532d440341a25fe8cfe6bf14ebf09feea3bc564aa", func := "gradine/gradinelaw03.ConfCut", spec := "confCut", apart := false }
def ConfCutSaid : Prop := confCutRow.holds Try.pinned (OpenSpec.ofChange confCutSpec)

/-- ITS FALSE NEIGHBOUR: 'it returns false'. Refute it at one input. -/
def confCutWrong : ChangeSpec := { name := "confCut", fn := fun _ => fun
  | [d1, d2, d3] => { results := [.lit (.bool false)], args := [d1, d2, d3] }
  | _ => none }
def ConfCutWrongFalsely : Prop := confCutRow.holds Try.pinned (OpenSpec.ofChange confCutWrong)

/-- 'gradinelaw04.MsgPuts': WHATEVER THE INPUT: true; the input reads as it did. -/
def msgPutsSpec : ChangeSpec := { name := "msgPuts", fn := fun _ => fun
  | [d] => { results := [.lit (.bool true)], args := [d] }
  | _ => none }
def msgPutsRow : OpenClaim := { program := "ytmkobmkaalfecaa", sum := "f77c57e6f763e7ca41a4665532d440341a25fe8cfe6bf14ebf09feea3bc564aa", func := "gradine/gradinelaw04.MsgPuts", spec := "msgPuts", apart := false }
def MsgPutsSaid : Prop := msgPutsRow.holds Try.pinned (OpenSpec.ofChange msgPutsSpec)

/-- ITS FALSE NEIGHBOUR: 'it returns false'. Refute it at one input. -/
def msgPutsWrong : ChangeSpec := { name := "msgPuts", fn := fun _ => fun
  | [d] => { results := [.lit (.bool false)], args := [d] }
  | _ => none }
def MsgPutsWrongFalsely : Prop := msgPutsRow.holds Try.pinned (OpenSpec.ofChange msgPutsWrong)

/-- 'gradinelaw04.MsgCut': WHATEVER THE INPUT: true; the input reads as it did. -/
def msgCutSpec : ChangeSpec := { name := "msgCut", fn := fun _ => fun
  | [d1, d2, d3] => { results := [.lit (.bool true)], args := [d1, d2, d3] }
  | _ => none }
def msgCutRow : OpenClaim := { program := "ytmkobmkaalfecaa", sum := "f77c57e6f763e7ca41a4665532d440341a25fe8cfe6bf14ebf09feea3bc564aa", func := "gradine/gradinelaw04.MsgCut", spec := "msgCut", apart := false }
def MsgCutSaid : Prop := msgCutRow.holds Try.pinned (OpenSpec.ofChange msgCutSpec)

/-- ITS FALSE NEIGHBOUR: 'it returns false'. Refute it at one input. -/
def msgCutWrong : ChangeSpec := { name := "msgCut", fn := fun _ => fun
  | [d1, d2, d3] => { results := [.lit (.bool false)], args := [d1, d2, d3] }
  | _ => none }
def MsgCutWrongFalsely : Prop := msgCutRow.holds Try.pinned (OpenSpec.ofChange msgCutWrong)

/- THE SECOND FORM. 'bulk': how many values and letters a reading holds, each counted each time it is reached (what is shared counts as often as it is met; a slice's spare places count too). A statement '..UptoSaid' is the law's where the arguments, and the package variables that the reading takes, are together of bulk at most 1048576: NARROWER than '..Said'. Prove '..Said' where nothing that the law and all that it calls make is longer than what came in: it says more and counts as full. Else prove '..UptoSaid'. A law counts once. -/
mutual
def uptoBulk {H : Type} : DataW H → Nat
  | .lit (.string bytes) => bytes.length + 1
  | .lit _ => 1
  | .nil => 1
  | .ptr d => uptoBulk d + 1
  | .slice elems spare => uptoBulkAll elems + uptoBulkAll spare + 1
  | .agg parts => uptoBulkAll parts + 1
  | .iface _ d => uptoBulk d + 1
  | .map entries => uptoBulkEntries entries + 1
  | .held _ => 1
def uptoBulkAll {H : Type} : List (DataW H) → Nat
  | [] => 0
  | d :: r => uptoBulk d + uptoBulkAll r
def uptoBulkEntries {H : Type} : List (Lit × DataW H) → Nat
  | [] => 0
  | x :: r => uptoBulkEntry x + uptoBulkEntries r
def uptoBulkEntry {H : Type} : Lit × DataW H → Nat
  | (.string bytes, d) => bytes.length + uptoBulk d + 1
  | (_, d) => uptoBulk d + 1
 end
def uptoSmall : (H : Type) → List (DataW H) → Bool := fun _ ds => decide (uptoBulkAll ds ≤ 1048576)
def OpenSpec.upto (s : _root_.Go.ChangeSpec) : _root_.Go.OpenSpec := { _root_.Go.OpenSpec.ofChange s with cond := some uptoSmall }

/-- 'gradinelaw01.RawSize', WHERE WHAT IT READS IS OF BULK AT MOST 1048576: true; the input reads as it did. -/
def rawSizeUptoRow : OpenClaim := { program := "ytmkobmkaalfecaa", sum := "f77c57e6f763e7ca41a4665532d440341a25fe8cfe6bf14ebf09feea3bc564aa", func := "gradine/gradinelaw01.RawSize", spec := "rawSize", apart := false, narrowed := true }
def RawSizeUptoSaid : Prop := rawSizeUptoRow.holds Try.pinned (OpenSpec.upto rawSizeSpec)

/-- 'gradinelaw01.RawPuts', WHERE WHAT IT READS IS OF BULK AT MOST 1048576: true; the input reads as it did. -/
def rawPutsUptoRow : OpenClaim := { program := "ytmkobmkaalfecaa", sum := "f77c57e6f763e7ca41a4665532d440341a25fe8cfe6bf14ebf09feea3bc564aa", func := "gradine/gradinelaw01.RawPuts", spec := "rawPuts", apart := false, narrowed := true }
def RawPutsUptoSaid : Prop := rawPutsUptoRow.holds Try.pinned (OpenSpec.upto rawPutsSpec)

/-- 'gradinelaw03.ConfTurned', WHERE WHAT IT READS IS OF BULK AT MOST 1048576: true; the input reads as it did. -/
def confTurnedUptoRow : OpenClaim := { program := "ytmkobmkaalfecaa", sum := "f77c57e6f763e7ca41a4665532d440341a25fe8cfe6bf14ebf09feea3bc564aa", func := "gradine/gradinelaw03.ConfTurned", spec := "confTurned", apart := false, narrowed := true }
def ConfTurnedUptoSaid : Prop := confTurnedUptoRow.holds Try.pinned (OpenSpec.upto confTurnedSpec)

/-- 'gradinelaw01.RawOne', WHERE WHAT IT READS IS OF BULK AT MOST 1048576: true; the input reads as it did. -/
def rawOneUptoRow : OpenClaim := { program := "ytmkobmkaalfecaa", sum := "f77c57e6f763e7ca41a4665532d440341a25fe8cfe6bf14ebf09feea3bc564aa", func := "gradine/gradinelaw01.RawOne", spec := "rawOne", apart := false, narrowed := true }
def RawOneUptoSaid : Prop := rawOneUptoRow.holds Try.pinned (OpenSpec.upto rawOneSpec)

/-- 'gradinelaw01.RawBack', WHERE WHAT IT READS IS OF BULK AT MOST 1048576: true; the input reads as it did. -/
def rawBackUptoRow : OpenClaim := { program := "ytmkobmkaalfecaa", sum := "f77c57e6f763e7ca41a4665532d440341a25fe8cfe6bf14ebf09feea3bc564aa", func := "gradine/gradinelaw01.RawBack", spec := "rawBack", apart := false, narrowed := true }
def RawBackUptoSaid : Prop := rawBackUptoRow.holds Try.pinned (OpenSpec.upto rawBackSpec)

/-- 'gradinelaw07.FramePuts', WHERE WHAT IT READS IS OF BULK AT MOST 1048576: true; the input reads as it did. -/
def framePutsUptoRow : OpenClaim := { program := "ytmkobmkaalfecaa", sum := "f77c57e6f763e7ca41a4665532d440341a25fe8cfe6bf14ebf09feea3bc564aa", func := "gradine/gradinelaw07.FramePuts", spec := "framePuts", apart := false, narrowed := true }
def FramePutsUptoSaid : Prop := framePutsUptoRow.holds Try.pinned (OpenSpec.upto framePutsSpec)

/-- 'gradinelaw07.FrameTurned', WHERE WHAT IT READS IS OF BULK AT MOST 1048576: true; the input reads as it did. -/
def frameTurnedUptoRow : OpenClaim := { program := "ytmkobmkaalfecaa", sum := "f77c57e6f763e7ca41a4665532d440341a25fe8cfe6bf14ebf09feea3bc564aa", func := "gradine/gradinelaw07.FrameTurned", spec := "frameTurned", apart := false, narrowed := true }
def FrameTurnedUptoSaid : Prop := frameTurnedUptoRow.holds Try.pinned (OpenSpec.upto frameTurnedSpec)

/-- 'gradinelaw07.FrameLast', WHERE WHAT IT READS IS OF BULK AT MOST 1048576: true; the input reads as it did. -/
def frameLastUptoRow : OpenClaim := { program := "ytmkobmkaalfecaa", sum := "f77c57e6f763e7ca41a4665532d440341a25fe8cfe6bf14ebf09feea3bc564aa", func := "gradine/gradinelaw07.FrameLast", spec := "frameLast", apart := false, narrowed := true }
def FrameLastUptoSaid : Prop := frameLastUptoRow.holds Try.pinned (OpenSpec.upto frameLastSpec)

/-- 'gradinelaw04.MsgFields', WHERE WHAT IT READS IS OF BULK AT MOST 1048576: true; the input reads as it did. -/
def msgFieldsUptoRow : OpenClaim := { program := "ytmkobmkaalfecaa", sum := "f77c57e6f763e7ca41a4665532d440341a25fe8cfe6bf14ebf09feea3bc564aa", func := "gradine/gradinelaw04.MsgFields", spec := "msgFields", apart := false, narrowed := true }
def MsgFieldsUptoSaid : Prop := msgFieldsUptoRow.holds Try.pinned (OpenSpec.upto msgFieldsSpec)

/-- 'gradinelaw04.MsgLeast', WHERE WHAT IT READS IS OF BULK AT MOST 1048576: true; the input reads as it did. -/
def msgLeastUptoRow : OpenClaim := { program := "ytmkobmkaalfecaa", sum := "f77c57e6f763e7ca41a4665532d440341a25fe8cfe6bf14ebf09feea3bc564aa", func := "gradine/gradinelaw04.MsgLeast", spec := "msgLeast", apart := false, narrowed := true }
def MsgLeastUptoSaid : Prop := msgLeastUptoRow.holds Try.pinned (OpenSpec.upto msgLeastSpec)

/-- 'gradinelaw03.ConfPuts', WHERE WHAT IT READS IS OF BULK AT MOST 1048576: true; the input reads as it did. -/
def confPutsUptoRow : OpenClaim := { program := "ytmkobmkaalfecaa", sum := "f77c57e6f763e7ca41a4665532d440341a25fe8cfe6bf14ebf09feea3bc564aa", func := "gradine/gradinelaw03.ConfPuts", spec := "confPuts", apart := false, narrowed := true }
def ConfPutsUptoSaid : Prop := confPutsUptoRow.holds Try.pinned (OpenSpec.upto confPutsSpec)

/-- 'gradinelaw03.ConfCut', WHERE WHAT IT READS IS OF BULK AT MOST 1048576: true; the input reads as it did. -/
def confCutUptoRow : OpenClaim := { program := "ytmkobmkaalfecaa", sum := "f77c57e6f763e7ca41a4665532d440341a25fe8cfe6bf14ebf09feea3bc564aa", func := "gradine/gradinelaw03.ConfCut", spec := "confCut", apart := false, narrowed := true }
def ConfCutUptoSaid : Prop := confCutUptoRow.holds Try.pinned (OpenSpec.upto confCutSpec)

/-- 'gradinelaw04.MsgPuts', WHERE WHAT IT READS IS OF BULK AT MOST 1048576: true; the input reads as it did. -/
def msgPutsUptoRow : OpenClaim := { program := "ytmkobmkaalfecaa", sum := "f77c57e6f763e7ca41a4665532d440341a25fe8cfe6bf14ebf09feea3bc564aa", func := "gradine/gradinelaw04.MsgPuts", spec := "msgPuts", apart := false, narrowed := true }
def MsgPutsUptoSaid : Prop := msgPutsUptoRow.holds Try.pinned (OpenSpec.upto msgPutsSpec)

/-- 'gradinelaw04.MsgCut', WHERE WHAT IT READS IS OF BULK AT MOST 1048576: true; the input reads as it did. -/
def msgCutUptoRow : OpenClaim := { program := "ytmkobmkaalfecaa", sum := "f77c57e6f763e7ca41a4665532d440341a25fe8cfe6bf14ebf09feea3bc564aa", func := "gradine/gradinelaw04.MsgCut", spec := "msgCut", apart := false, narrowed := true }
def MsgCutUptoSaid : Prop := msgCutUptoRow.holds Try.pinned (OpenSpec.upto msgCutSpec)

end Rows
end Go.Proofs.Ytmkobmkaalfecaa
