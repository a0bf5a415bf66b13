/-
  No cell of these rows narrows 'for every input' (looked for: loops, veiled, ifaces, maps, wideKeys, modest, calm, conditions, laid).
  DERIVED. THE GIVEN ROWS OF THIS SEAT. 12 by the template 'for every input the law returns true; each argument reads behind the call as it read before'; 0 by the template 'total and deterministic' (their statements: YtjjmjidchehffaaTotals.lean).
  GIVEN WITH THE SEED: the statements are not yours to turn. If you find one false, say at which input.
  Laid BY PROGRAM, IN A SANDBOX (cutbox-rows.mjs): the forced cells as the released guide's own fill.sh prints them over the translation ea612df5fa61f3af… (all of the seat's roots in one cut). By AI agents, Wed Nov 11 2026. No macro, syntax, notation, axiom, sorry.
-/
import Derived.Test.YtjjmjidchehffaaChecked
import GoSem.Claim
import GoSem.ClaimJoined
import GoSem.ClaimMapViews
import Derived.JoinedTies
import Derived.KernelRfl
namespace Go.Proofs.Ytjjmjidchehffaa
/- THE CELL 'sum', in the pinned program and in every row, IS THE sha256 OF THE DUMP (.gsa) THAT YtjjmjidchehffaaProg.lean LOADS. Nothing in Lean hashes anything: it is a label: what it is worth is what the hold of that sum in a sandbox is worth. -/
noncomputable def Try.pinned : Pinned := { name := "ytjjmjidchehffaa", sum := "ea612df5fa61f3af540fb8dbd58516ce6d4fcdde11f6918caf1d7abbca823caa", checked := Try.checked }
namespace Rows
def none {H : Type} : Left H := { results := [], args := [] }

/-- 'laws.FnSpanCoverFull': WHATEVER THE INPUT: true; the input reads as it did. -/
def fnSpanCoverFullSpec : ChangeSpec := { name := "fnSpanCoverFull", fn := fun _ => fun
  | [d] => { results := [.lit (.bool true)], args := [d] }
  | _ => none }
def fnSpanCoverFullRow : OpenClaim := { program := "ytjjmjidchehffaa", sum := "ea612df5fa61f3af540fb8dbd58516ce6d4fcdde11f6918caf1d7abbca823caa", func := "loop.example/vectorraster/laws.FnSpanCoverFull", spec := "fnSpanCoverFull", recurses := true, apart := false }
def FnSpanCoverFullSaid : Prop := fnSpanCoverFullRow.holds Try.pinned (OpenSpec.ofChange fnSpanCoverFullSpec)

/-- ITS FALSE NEIGHBOUR: 'it returns false'. Refute it at one input. -/
def fnSpanCoverFullWrong : ChangeSpec := { name := "fnSpanCoverFull", fn := fun _ => fun
  | [d] => { results := [.lit (.bool false)], args := [d] }
  | _ => none }
def FnSpanCoverFullWrongFalsely : Prop := fnSpanCoverFullRow.holds Try.pinned (OpenSpec.ofChange fnSpanCoverFullWrong)

/-- 'laws.FnSpanCoverSum': WHATEVER THE INPUT: true; the input reads as it did. -/
def fnSpanCoverSumSpec : ChangeSpec := { name := "fnSpanCoverSum", fn := fun _ => fun
  | [d] => { results := [.lit (.bool true)], args := [d] }
  | _ => none }
def fnSpanCoverSumRow : OpenClaim := { program := "ytjjmjidchehffaa", sum := "ea612df5fa61f3af540fb8dbd58516ce6d4fcdde11f6918caf1d7abbca823caa", func := "loop.example/vectorraster/laws.FnSpanCoverSum", spec := "fnSpanCoverSum", recurses := true, apart := false }
def FnSpanCoverSumSaid : Prop := fnSpanCoverSumRow.holds Try.pinned (OpenSpec.ofChange fnSpanCoverSumSpec)

/-- ITS FALSE NEIGHBOUR: 'it returns false'. Refute it at one input. -/
def fnSpanCoverSumWrong : ChangeSpec := { name := "fnSpanCoverSum", fn := fun _ => fun
  | [d] => { results := [.lit (.bool false)], args := [d] }
  | _ => none }
def FnSpanCoverSumWrongFalsely : Prop := fnSpanCoverSumRow.holds Try.pinned (OpenSpec.ofChange fnSpanCoverSumWrong)

/-- 'laws.FnEdgesIn': WHATEVER THE INPUT: true; the input reads as it did. -/
def fnEdgesInSpec : ChangeSpec := { name := "fnEdgesIn", fn := fun _ => fun
  | [d] => { results := [.lit (.bool true)], args := [d] }
  | _ => none }
def fnEdgesInRow : OpenClaim := { program := "ytjjmjidchehffaa", sum := "ea612df5fa61f3af540fb8dbd58516ce6d4fcdde11f6918caf1d7abbca823caa", func := "loop.example/vectorraster/laws.FnEdgesIn", spec := "fnEdgesIn", unfollowed := true, recurses := true, apart := false }
def FnEdgesInSaid : Prop := fnEdgesInRow.holds Try.pinned (OpenSpec.ofChange fnEdgesInSpec)

/-- ITS FALSE NEIGHBOUR: 'it returns false'. Refute it at one input. -/
def fnEdgesInWrong : ChangeSpec := { name := "fnEdgesIn", fn := fun _ => fun
  | [d] => { results := [.lit (.bool false)], args := [d] }
  | _ => none }
def FnEdgesInWrongFalsely : Prop := fnEdgesInRow.holds Try.pinned (OpenSpec.ofChange fnEdgesInWrong)

/-- 'laws.FnInsideAt': WHATEVER THE INPUT: true; the input reads as it did. -/
def fnInsideAtSpec : ChangeSpec := { name := "fnInsideAt", fn := fun _ => fun
  | [d] => { results := [.lit (.bool true)], args := [d] }
  | _ => none }
def fnInsideAtRow : OpenClaim := { program := "ytjjmjidchehffaa", sum := "ea612df5fa61f3af540fb8dbd58516ce6d4fcdde11f6918caf1d7abbca823caa", func := "loop.example/vectorraster/laws.FnInsideAt", spec := "fnInsideAt", unfollowed := true, recurses := true, apart := false }
def FnInsideAtSaid : Prop := fnInsideAtRow.holds Try.pinned (OpenSpec.ofChange fnInsideAtSpec)

/-- ITS FALSE NEIGHBOUR: 'it returns false'. Refute it at one input. -/
def fnInsideAtWrong : ChangeSpec := { name := "fnInsideAt", fn := fun _ => fun
  | [d] => { results := [.lit (.bool false)], args := [d] }
  | _ => none }
def FnInsideAtWrongFalsely : Prop := fnInsideAtRow.holds Try.pinned (OpenSpec.ofChange fnInsideAtWrong)

/-- 'laws.FnRingsOfMoves': WHATEVER THE INPUT: true; the input reads as it did. -/
def fnRingsOfMovesSpec : ChangeSpec := { name := "fnRingsOfMoves", fn := fun _ => fun
  | [d] => { results := [.lit (.bool true)], args := [d] }
  | _ => none }
def fnRingsOfMovesRow : OpenClaim := { program := "ytjjmjidchehffaa", sum := "ea612df5fa61f3af540fb8dbd58516ce6d4fcdde11f6918caf1d7abbca823caa", func := "loop.example/vectorraster/laws.FnRingsOfMoves", spec := "fnRingsOfMoves", unfollowed := true, recurses := true, apart := false }
def FnRingsOfMovesSaid : Prop := fnRingsOfMovesRow.holds Try.pinned (OpenSpec.ofChange fnRingsOfMovesSpec)

/-- ITS FALSE NEIGHBOUR: 'it returns false'. Refute it at one input. -/
def fnRingsOfMovesWrong : ChangeSpec := { name := "fnRingsOfMoves", fn := fun _ => fun
  | [d] => { results := [.lit (.bool false)], args := [d] }
  | _ => none }
def FnRingsOfMovesWrongFalsely : Prop := fnRingsOfMovesRow.holds Try.pinned (OpenSpec.ofChange fnRingsOfMovesWrong)

/-- 'laws.FnCoverOf': WHATEVER THE INPUT: true; the input reads as it did. -/
def fnCoverOfSpec : ChangeSpec := { name := "fnCoverOf", fn := fun _ => fun
  | [d] => { results := [.lit (.bool true)], args := [d] }
  | _ => none }
def fnCoverOfRow : OpenClaim := { program := "ytjjmjidchehffaa", sum := "ea612df5fa61f3af540fb8dbd58516ce6d4fcdde11f6918caf1d7abbca823caa", func := "loop.example/vectorraster/laws.FnCoverOf", spec := "fnCoverOf", unfollowed := true, recurses := true, apart := false }
def FnCoverOfSaid : Prop := fnCoverOfRow.holds Try.pinned (OpenSpec.ofChange fnCoverOfSpec)

/-- ITS FALSE NEIGHBOUR: 'it returns false'. Refute it at one input. -/
def fnCoverOfWrong : ChangeSpec := { name := "fnCoverOf", fn := fun _ => fun
  | [d] => { results := [.lit (.bool false)], args := [d] }
  | _ => none }
def FnCoverOfWrongFalsely : Prop := fnCoverOfRow.holds Try.pinned (OpenSpec.ofChange fnCoverOfWrong)

/-- 'laws.FnCoverOfTwice': WHATEVER THE INPUT: true; the input reads as it did. -/
def fnCoverOfTwiceSpec : ChangeSpec := { name := "fnCoverOfTwice", fn := fun _ => fun
  | [d] => { results := [.lit (.bool true)], args := [d] }
  | _ => none }
def fnCoverOfTwiceRow : OpenClaim := { program := "ytjjmjidchehffaa", sum := "ea612df5fa61f3af540fb8dbd58516ce6d4fcdde11f6918caf1d7abbca823caa", func := "loop.example/vectorraster/laws.FnCoverOfTwice", spec := "fnCoverOfTwice", unfollowed := true, recurses := true, apart := false }
def FnCoverOfTwiceSaid : Prop := fnCoverOfTwiceRow.holds Try.pinned (OpenSpec.ofChange fnCoverOfTwiceSpec)

/-- ITS FALSE NEIGHBOUR: 'it returns false'. Refute it at one input. -/
def fnCoverOfTwiceWrong : ChangeSpec := { name := "fnCoverOfTwice", fn := fun _ => fun
  | [d] => { results := [.lit (.bool false)], args := [d] }
  | _ => none }
def FnCoverOfTwiceWrongFalsely : Prop := fnCoverOfTwiceRow.holds Try.pinned (OpenSpec.ofChange fnCoverOfTwiceWrong)

/-- 'laws.FnEdgesInReverse': WHATEVER THE INPUT: true; the input reads as it did. -/
def fnEdgesInReverseSpec : ChangeSpec := { name := "fnEdgesInReverse", fn := fun _ => fun
  | [d] => { results := [.lit (.bool true)], args := [d] }
  | _ => none }
def fnEdgesInReverseRow : OpenClaim := { program := "ytjjmjidchehffaa", sum := "ea612df5fa61f3af540fb8dbd58516ce6d4fcdde11f6918caf1d7abbca823caa", func := "loop.example/vectorraster/laws.FnEdgesInReverse", spec := "fnEdgesInReverse", unfollowed := true, recurses := true, apart := false }
def FnEdgesInReverseSaid : Prop := fnEdgesInReverseRow.holds Try.pinned (OpenSpec.ofChange fnEdgesInReverseSpec)

/-- ITS FALSE NEIGHBOUR: 'it returns false'. Refute it at one input. -/
def fnEdgesInReverseWrong : ChangeSpec := { name := "fnEdgesInReverse", fn := fun _ => fun
  | [d] => { results := [.lit (.bool false)], args := [d] }
  | _ => none }
def FnEdgesInReverseWrongFalsely : Prop := fnEdgesInReverseRow.holds Try.pinned (OpenSpec.ofChange fnEdgesInReverseWrong)

/-- 'laws.FnCoverOfSamples': WHATEVER THE INPUT: true; the input reads as it did. -/
def fnCoverOfSamplesSpec : ChangeSpec := { name := "fnCoverOfSamples", fn := fun _ => fun
  | [d] => { results := [.lit (.bool true)], args := [d] }
  | _ => none }
def fnCoverOfSamplesRow : OpenClaim := { program := "ytjjmjidchehffaa", sum := "ea612df5fa61f3af540fb8dbd58516ce6d4fcdde11f6918caf1d7abbca823caa", func := "loop.example/vectorraster/laws.FnCoverOfSamples", spec := "fnCoverOfSamples", unfollowed := true, recurses := true, apart := false }
def FnCoverOfSamplesSaid : Prop := fnCoverOfSamplesRow.holds Try.pinned (OpenSpec.ofChange fnCoverOfSamplesSpec)

/-- ITS FALSE NEIGHBOUR: 'it returns false'. Refute it at one input. -/
def fnCoverOfSamplesWrong : ChangeSpec := { name := "fnCoverOfSamples", fn := fun _ => fun
  | [d] => { results := [.lit (.bool false)], args := [d] }
  | _ => none }
def FnCoverOfSamplesWrongFalsely : Prop := fnCoverOfSamplesRow.holds Try.pinned (OpenSpec.ofChange fnCoverOfSamplesWrong)

/-- 'laws.FnReversePathTwice': WHATEVER THE INPUT: true; the input reads as it did. -/
def fnReversePathTwiceSpec : ChangeSpec := { name := "fnReversePathTwice", fn := fun _ => fun
  | [d] => { results := [.lit (.bool true)], args := [d] }
  | _ => none }
def fnReversePathTwiceRow : OpenClaim := { program := "ytjjmjidchehffaa", sum := "ea612df5fa61f3af540fb8dbd58516ce6d4fcdde11f6918caf1d7abbca823caa", func := "loop.example/vectorraster/laws.FnReversePathTwice", spec := "fnReversePathTwice", unfollowed := true, recurses := true, apart := false }
def FnReversePathTwiceSaid : Prop := fnReversePathTwiceRow.holds Try.pinned (OpenSpec.ofChange fnReversePathTwiceSpec)

/-- ITS FALSE NEIGHBOUR: 'it returns false'. Refute it at one input. -/
def fnReversePathTwiceWrong : ChangeSpec := { name := "fnReversePathTwice", fn := fun _ => fun
  | [d] => { results := [.lit (.bool false)], args := [d] }
  | _ => none }
def FnReversePathTwiceWrongFalsely : Prop := fnReversePathTwiceRow.holds Try.pinned (OpenSpec.ofChange fnReversePathTwiceWrong)

/-- 'laws.FnWindingAtMove': WHATEVER THE INPUT: true; the input reads as it did. -/
def fnWindingAtMoveSpec : ChangeSpec := { name := "fnWindingAtMove", fn := fun _ => fun
  | [d] => { results := [.lit (.bool true)], args := [d] }
  | _ => none }
def fnWindingAtMoveRow : OpenClaim := { program := "ytjjmjidchehffaa", sum := "ea612df5fa61f3af540fb8dbd58516ce6d4fcdde11f6918caf1d7abbca823caa", func := "loop.example/vectorraster/laws.FnWindingAtMove", spec := "fnWindingAtMove", unfollowed := true, recurses := true, apart := false }
def FnWindingAtMoveSaid : Prop := fnWindingAtMoveRow.holds Try.pinned (OpenSpec.ofChange fnWindingAtMoveSpec)

/-- ITS FALSE NEIGHBOUR: 'it returns false'. Refute it at one input. -/
def fnWindingAtMoveWrong : ChangeSpec := { name := "fnWindingAtMove", fn := fun _ => fun
  | [d] => { results := [.lit (.bool false)], args := [d] }
  | _ => none }
def FnWindingAtMoveWrongFalsely : Prop := fnWindingAtMoveRow.holds Try.pinned (OpenSpec.ofChange fnWindingAtMoveWrong)

/-- 'laws.FnPathArea': WHATEVER THE INPUT: true; the input reads as it did. -/
def fnPathAreaSpec : ChangeSpec := { name := "fnPathArea", fn := fun _ => fun
  | [d] => { results := [.lit (.bool true)], args := [d] }
  | _ => none }
def fnPathAreaRow : OpenClaim := { program := "ytjjmjidchehffaa", sum := "ea612df5fa61f3af540fb8dbd58516ce6d4fcdde11f6918caf1d7abbca823caa", func := "loop.example/vectorraster/laws.FnPathArea", spec := "fnPathArea", unfollowed := true, recurses := true, apart := false }
def FnPathAreaSaid : Prop := fnPathAreaRow.holds Try.pinned (OpenSpec.ofChange fnPathAreaSpec)

/-- ITS FALSE NEIGHBOUR: 'it returns false'. Refute it at one input. -/
def fnPathAreaWrong : ChangeSpec := { name := "fnPathArea", fn := fun _ => fun
  | [d] => { results := [.lit (.bool false)], args := [d] }
  | _ => none }
def FnPathAreaWrongFalsely : Prop := fnPathAreaRow.holds Try.pinned (OpenSpec.ofChange fnPathAreaWrong)

/- THE SECOND FORM. 'bulk': how many values and letters a reading holds, each counted each time it is reached (what is shared counts as often as it is met; a slice's spare places count too). A statement '..UptoSaid' is the law's where the arguments, and the package variables that the reading takes, are together of bulk at most 1048576: NARROWER than '..Said'. Prove '..Said' where nothing that the law and all that it calls make is longer than what came in: it says more and counts as full. Else prove '..UptoSaid'. A law counts once. -/
mutual
def uptoBulk {H : Type} : DataW H → Nat
  | .lit (.string bytes) => bytes.length + 1
  | .lit _ => 1
  | .nil => 1
  | .ptr d => uptoBulk d + 1
  | .slice elems spare => uptoBulkAll elems + uptoBulkAll spare + 1
  | .agg parts => uptoBulkAll parts + 1
  | .iface _ d => uptoBulk d + 1
  | .map entries => uptoBulkEntries entries + 1
  | .held _ => 1
def uptoBulkAll {H : Type} : List (DataW H) → Nat
  | [] => 0
  | d :: r => uptoBulk d + uptoBulkAll r
def uptoBulkEntries {H : Type} : List (Lit × DataW H) → Nat
  | [] => 0
  | x :: r => uptoBulkEntry x + uptoBulkEntries r
def uptoBulkEntry {H : Type} : Lit × DataW H → Nat
  | (.string bytes, d) => bytes.length + uptoBulk d + 1
  | (_, d) => uptoBulk d + 1
 end
def uptoSmall : (H : Type) → List (DataW H) → Bool := fun _ ds => decide (uptoBulkAll ds ≤ 1048576)
def OpenSpec.upto (s : _root_.Go.ChangeSpec) : _root_.Go.OpenSpec := { _root_.Go.OpenSpec.ofChange s with cond := some uptoSmall }

/-- 'laws.FnSpanCoverFull', WHERE WHAT IT READS IS OF BULK AT MOST 1048576: true; the input reads as it did. -/
def fnSpanCoverFullUptoRow : OpenClaim := { program := "ytjjmjidchehffaa", sum := "ea612df5fa61f3af540fb8dbd58516ce6d4fcdde11f6918caf1d7abbca823caa", func := "loop.example/vectorraster/laws.FnSpanCoverFull", spec := "fnSpanCoverFull", recurses := true, apart := false, narrowed := true }
def FnSpanCoverFullUptoSaid : Prop := fnSpanCoverFullUptoRow.holds Try.pinned (OpenSpec.upto fnSpanCoverFullSpec)

/-- 'laws.FnSpanCoverSum', WHERE WHAT IT READS IS OF BULK AT MOST 1048576: true; the input reads as it did. -/
def fnSpanCoverSumUptoRow : OpenClaim := { program := "ytjjmjidchehffaa", sum := "ea612df5fa61f3af540fb8dbd58516ce6d4fcdde11f6918caf1d7abbca823caa", func := "loop.example/vectorraster/laws.FnSpanCoverSum", spec := "fnSpanCoverSum", recurses := true, apart := false, narrowed := true }
def FnSpanCoverSumUptoSaid : Prop := fnSpanCoverSumUptoRow.holds Try.pinned (OpenSpec.upto fnSpanCoverSumSpec)

/-- 'laws.FnEdgesIn', WHERE WHAT IT READS IS OF BULK AT MOST 1048576: true; the input reads as it did. -/
def fnEdgesInUptoRow : OpenClaim := { program := "ytjjmjidchehffaa", sum := "ea612df5fa61f3af540fb8dbd58516ce6d4fcdde11f6918caf1d7abbca823caa", func := "loop.example/vectorraster/laws.FnEdgesIn", spec := "fnEdgesIn", unfollowed := true, recurses := true, apart := false, narrowed := true }
def FnEdgesInUptoSaid : Prop := fnEdgesInUptoRow.holds Try.pinned (OpenSpec.upto fnEdgesInSpec)

/-- 'laws.FnInsideAt', WHERE WHAT IT READS IS OF BULK AT MOST 1048576: true; the input reads as it did. -/
def fnInsideAtUptoRow : OpenClaim := { program := "ytjjmjidchehffaa", sum := "ea612df5fa61f3af540fb8dbd58516ce6d4fcdde11f6918caf1d7abbca823caa", func := "loop.example/vectorraster/laws.FnInsideAt", spec := "fnInsideAt", unfollowed := true, recurses := true, apart := false, narrowed := true }
def FnInsideAtUptoSaid : Prop := fnInsideAtUptoRow.holds Try.pinned (OpenSpec.upto fnInsideAtSpec)

/-- 'laws.FnRingsOfMoves', WHERE WHAT IT READS IS OF BULK AT MOST 1048576: true; the input reads as it did. -/
def fnRingsOfMovesUptoRow : OpenClaim := { program := "ytjjmjidchehffaa", sum := "ea612df5fa61f3af540fb8dbd58516ce6d4fcdde11f6918caf1d7abbca823caa", func := "loop.example/vectorraster/laws.FnRingsOfMoves", spec := "fnRingsOfMoves", unfollowed := true, recurses := true, apart := false, narrowed := true }
def FnRingsOfMovesUptoSaid : Prop := fnRingsOfMovesUptoRow.holds Try.pinned (OpenSpec.upto fnRingsOfMovesSpec)

/-- 'laws.FnCoverOf', WHERE WHAT IT READS IS OF BULK AT MOST 1048576: true; the input reads as it did. -/
def fnCoverOfUptoRow : OpenClaim := { program := "ytjjmjidchehffaa", sum := "ea612df5fa61f3af540fb8dbd58516ce6d4fcdde11f6918caf1d7abbca823caa", func := "loop.example/vectorraster/laws.FnCoverOf", spec := "fnCoverOf", unfollowed := true, recurses := true, apart := false, narrowed := true }
def FnCoverOfUptoSaid : Prop := fnCoverOfUptoRow.holds Try.pinned (OpenSpec.upto fnCoverOfSpec)

/-- 'laws.FnCoverOfTwice', WHERE WHAT IT READS IS OF BULK AT MOST 1048576: true; the input reads as it did. -/
def fnCoverOfTwiceUptoRow : OpenClaim := { program := "ytjjmjidchehffaa", sum := "ea612df5fa61f3af540fb8dbd58516ce6d4fcdde11f6918caf1d7abbca823caa", func := "loop.example/vectorraster/laws.FnCoverOfTwice", spec := "fnCoverOfTwice", unfollowed := true, recurses := true, apart := false, narrowed := true }
def FnCoverOfTwiceUptoSaid : Prop := fnCoverOfTwiceUptoRow.holds Try.pinned (OpenSpec.upto fnCoverOfTwiceSpec)

/-- 'laws.FnEdgesInReverse', WHERE WHAT IT READS IS OF BULK AT MOST 1048576: true; the input reads as it did. -/
def fnEdgesInReverseUptoRow : OpenClaim := { program := "ytjjmjidchehffaa", sum := "ea612df5fa61f3af540fb8dbd58516ce6d4fcdde11f6918caf1d7abbca823caa", func := "loop.example/vectorraster/laws.FnEdgesInReverse", spec := "fnEdgesInReverse", unfollowed := true, recurses := true, apart := false, narrowed := true }
def FnEdgesInReverseUptoSaid : Prop := fnEdgesInReverseUptoRow.holds Try.pinned (OpenSpec.upto fnEdgesInReverseSpec)

/-- 'laws.FnCoverOfSamples', WHERE WHAT IT READS IS OF BULK AT MOST 1048576: true; the input reads as it did. -/
def fnCoverOfSamplesUptoRow : OpenClaim := { program := "ytjjmjidchehffaa", sum := "ea612df5fa61f3af540fb8dbd58516ce6d4fcdde11f6918caf1d7abbca823caa", func := "loop.example/vectorraster/laws.FnCoverOfSamples", spec := "fnCoverOfSamples", unfollowed := true, recurses := true, apart := false, narrowed := true }
def FnCoverOfSamplesUptoSaid : Prop := fnCoverOfSamplesUptoRow.holds Try.pinned (OpenSpec.upto fnCoverOfSamplesSpec)

/-- 'laws.FnReversePathTwice', WHERE WHAT IT READS IS OF BULK AT MOST 1048576: true; the input reads as it did. -/
def fnReversePathTwiceUptoRow : OpenClaim := { program := "ytjjmjidchehffaa", sum := "ea612df5fa61f3af540fb8dbd58516ce6d4fcdde11f6918caf1d7abbca823caa", func := "loop.example/vectorraster/laws.FnReversePathTwice", spec := "fnReversePathTwice", unfollowed := true, recurses := true, apart := false, narrowed := true }
def FnReversePathTwiceUptoSaid : Prop := fnReversePathTwiceUptoRow.holds Try.pinned (OpenSpec.upto fnReversePathTwiceSpec)

/-- 'laws.FnWindingAtMove', WHERE WHAT IT READS IS OF BULK AT MOST 1048576: true; the input reads as it did. -/
def fnWindingAtMoveUptoRow : OpenClaim := { program := "ytjjmjidchehffaa", sum := "ea612df5fa61f3af540fb8dbd58516ce6d4fcdde11f6918caf1d7abbca823caa", func := "loop.example/vectorraster/laws.FnWindingAtMove", spec := "fnWindingAtMove", unfollowed := true, recurses := true, apart := false, narrowed := true }
def FnWindingAtMoveUptoSaid : Prop := fnWindingAtMoveUptoRow.holds Try.pinned (OpenSpec.upto fnWindingAtMoveSpec)

/-- 'laws.FnPathArea', WHERE WHAT IT READS IS OF BULK AT MOST 1048576: true; the input reads as it did. -/
def fnPathAreaUptoRow : OpenClaim := { program := "ytjjmjidchehffaa", sum := "ea612df5fa61f3af540fb8dbd58516ce6d4fcdde11f6918caf1d7abbca823caa", func := "loop.example/vectorraster/laws.FnPathArea", spec := "fnPathArea", unfollowed := true, recurses := true, apart := false, narrowed := true }
def FnPathAreaUptoSaid : Prop := fnPathAreaUptoRow.holds Try.pinned (OpenSpec.upto fnPathAreaSpec)

end Rows
end Go.Proofs.Ytjjmjidchehffaa
