/-
  No cell of these rows narrows 'for every input' (looked for: loops, veiled, ifaces, maps, wideKeys, modest, calm, conditions, laid).
  DERIVED. THE GIVEN ROWS OF THIS SEAT. 7 by the template 'for every input the law returns true; each argument reads behind the call as it read before'; 0 by the template 'total and deterministic' (their statements: YtcejoknapbhloaaTotals.lean).
  GIVEN WITH THE SEED: the statements are not yours to turn. If you find one false, say at which input.
  Laid BY PROGRAM, IN A SANDBOX (cutbox-rows.mjs): the forced cells as the released guide's own fill.sh prints them over the translation 0fcb08732881fffe… (all of the seat's roots in one cut). By AI agents, Wed Nov 11 2026. No macro, syntax, notation, axiom, sorry.
-/
import Derived.Test.YtcejoknapbhloaaChecked
import GoSem.Claim
import GoSem.ClaimJoined
import GoSem.ClaimMapViews
import Derived.JoinedTies
import Derived.KernelRfl
namespace Go.Proofs.Ytcejoknapbhloaa
/- THE CELL 'sum', in the pinned program and in every row, IS THE sha256 OF THE DUMP (.gsa) THAT YtcejoknapbhloaaProg.lean LOADS. Nothing in Lean hashes anything: it is a label: what it is worth is what the hold of that sum in a sandbox is worth. -/
noncomputable def Try.pinned : Pinned := { name := "ytcejoknapbhloaa", sum := "0fcb08732881fffeb8b9b28709fa93872d81e49afaa988f0698d0e36ef1eedb9", checked := Try.checked }
namespace Rows
def none {H : Type} : Left H := { results := [], args := [] }

/-- 'laws.FnCrossesOf': WHATEVER THE INPUT: true; the input reads as it did. -/
def fnCrossesOfSpec : ChangeSpec := { name := "fnCrossesOf", fn := fun _ => fun
  | [d] => { results := [.lit (.bool true)], args := [d] }
  | _ => none }
def fnCrossesOfRow : OpenClaim := { program := "ytcejoknapbhloaa", sum := "0fcb08732881fffeb8b9b28709fa93872d81e49afaa988f0698d0e36ef1eedb9", func := "loop.example/vectorraster/laws.FnCrossesOf", spec := "fnCrossesOf", unfollowed := true, recurses := true, apart := false }
def FnCrossesOfSaid : Prop := fnCrossesOfRow.holds Try.pinned (OpenSpec.ofChange fnCrossesOfSpec)

/-- ITS FALSE NEIGHBOUR: 'it returns false'. Refute it at one input. -/
def fnCrossesOfWrong : ChangeSpec := { name := "fnCrossesOf", fn := fun _ => fun
  | [d] => { results := [.lit (.bool false)], args := [d] }
  | _ => none }
def FnCrossesOfWrongFalsely : Prop := fnCrossesOfRow.holds Try.pinned (OpenSpec.ofChange fnCrossesOfWrong)

/-- 'laws.FnCrossesOfReverse': WHATEVER THE INPUT: true; the input reads as it did. -/
def fnCrossesOfReverseSpec : ChangeSpec := { name := "fnCrossesOfReverse", fn := fun _ => fun
  | [d] => { results := [.lit (.bool true)], args := [d] }
  | _ => none }
def fnCrossesOfReverseRow : OpenClaim := { program := "ytcejoknapbhloaa", sum := "0fcb08732881fffeb8b9b28709fa93872d81e49afaa988f0698d0e36ef1eedb9", func := "loop.example/vectorraster/laws.FnCrossesOfReverse", spec := "fnCrossesOfReverse", unfollowed := true, recurses := true, apart := false }
def FnCrossesOfReverseSaid : Prop := fnCrossesOfReverseRow.holds Try.pinned (OpenSpec.ofChange fnCrossesOfReverseSpec)

/-- ITS FALSE NEIGHBOUR: 'it returns false'. Refute it at one input. -/
def fnCrossesOfReverseWrong : ChangeSpec := { name := "fnCrossesOfReverse", fn := fun _ => fun
  | [d] => { results := [.lit (.bool false)], args := [d] }
  | _ => none }
def FnCrossesOfReverseWrongFalsely : Prop := fnCrossesOfReverseRow.holds Try.pinned (OpenSpec.ofChange fnCrossesOfReverseWrong)

/-- 'laws.FnCrossesOfWinding': WHATEVER THE INPUT: true; the input reads as it did. -/
def fnCrossesOfWindingSpec : ChangeSpec := { name := "fnCrossesOfWinding", fn := fun _ => fun
  | [d] => { results := [.lit (.bool true)], args := [d] }
  | _ => none }
def fnCrossesOfWindingRow : OpenClaim := { program := "ytcejoknapbhloaa", sum := "0fcb08732881fffeb8b9b28709fa93872d81e49afaa988f0698d0e36ef1eedb9", func := "loop.example/vectorraster/laws.FnCrossesOfWinding", spec := "fnCrossesOfWinding", unfollowed := true, recurses := true, apart := false }
def FnCrossesOfWindingSaid : Prop := fnCrossesOfWindingRow.holds Try.pinned (OpenSpec.ofChange fnCrossesOfWindingSpec)

/-- ITS FALSE NEIGHBOUR: 'it returns false'. Refute it at one input. -/
def fnCrossesOfWindingWrong : ChangeSpec := { name := "fnCrossesOfWinding", fn := fun _ => fun
  | [d] => { results := [.lit (.bool false)], args := [d] }
  | _ => none }
def FnCrossesOfWindingWrongFalsely : Prop := fnCrossesOfWindingRow.holds Try.pinned (OpenSpec.ofChange fnCrossesOfWindingWrong)

/-- 'laws.FnSpanCover': WHATEVER THE INPUT: true; the input reads as it did. -/
def fnSpanCoverSpec : ChangeSpec := { name := "fnSpanCover", fn := fun _ => fun
  | [d] => { results := [.lit (.bool true)], args := [d] }
  | _ => none }
def fnSpanCoverRow : OpenClaim := { program := "ytcejoknapbhloaa", sum := "0fcb08732881fffeb8b9b28709fa93872d81e49afaa988f0698d0e36ef1eedb9", func := "loop.example/vectorraster/laws.FnSpanCover", spec := "fnSpanCover", unfollowed := true, recurses := true, apart := false }
def FnSpanCoverSaid : Prop := fnSpanCoverRow.holds Try.pinned (OpenSpec.ofChange fnSpanCoverSpec)

/-- ITS FALSE NEIGHBOUR: 'it returns false'. Refute it at one input. -/
def fnSpanCoverWrong : ChangeSpec := { name := "fnSpanCover", fn := fun _ => fun
  | [d] => { results := [.lit (.bool false)], args := [d] }
  | _ => none }
def FnSpanCoverWrongFalsely : Prop := fnSpanCoverRow.holds Try.pinned (OpenSpec.ofChange fnSpanCoverWrong)

/-- 'laws.FnSpansOfApart': WHATEVER THE INPUT: true; the input reads as it did. -/
def fnSpansOfApartSpec : ChangeSpec := { name := "fnSpansOfApart", fn := fun _ => fun
  | [d] => { results := [.lit (.bool true)], args := [d] }
  | _ => none }
def fnSpansOfApartRow : OpenClaim := { program := "ytcejoknapbhloaa", sum := "0fcb08732881fffeb8b9b28709fa93872d81e49afaa988f0698d0e36ef1eedb9", func := "loop.example/vectorraster/laws.FnSpansOfApart", spec := "fnSpansOfApart", unfollowed := true, recurses := true, apart := false }
def FnSpansOfApartSaid : Prop := fnSpansOfApartRow.holds Try.pinned (OpenSpec.ofChange fnSpansOfApartSpec)

/-- ITS FALSE NEIGHBOUR: 'it returns false'. Refute it at one input. -/
def fnSpansOfApartWrong : ChangeSpec := { name := "fnSpansOfApart", fn := fun _ => fun
  | [d] => { results := [.lit (.bool false)], args := [d] }
  | _ => none }
def FnSpansOfApartWrongFalsely : Prop := fnSpansOfApartRow.holds Try.pinned (OpenSpec.ofChange fnSpansOfApartWrong)

/-- 'laws.FnSpansOfReverse': WHATEVER THE INPUT: true; the input reads as it did. -/
def fnSpansOfReverseSpec : ChangeSpec := { name := "fnSpansOfReverse", fn := fun _ => fun
  | [d] => { results := [.lit (.bool true)], args := [d] }
  | _ => none }
def fnSpansOfReverseRow : OpenClaim := { program := "ytcejoknapbhloaa", sum := "0fcb08732881fffeb8b9b28709fa93872d81e49afaa988f0698d0e36ef1eedb9", func := "loop.example/vectorraster/laws.FnSpansOfReverse", spec := "fnSpansOfReverse", unfollowed := true, recurses := true, apart := false }
def FnSpansOfReverseSaid : Prop := fnSpansOfReverseRow.holds Try.pinned (OpenSpec.ofChange fnSpansOfReverseSpec)

/-- ITS FALSE NEIGHBOUR: 'it returns false'. Refute it at one input. -/
def fnSpansOfReverseWrong : ChangeSpec := { name := "fnSpansOfReverse", fn := fun _ => fun
  | [d] => { results := [.lit (.bool false)], args := [d] }
  | _ => none }
def FnSpansOfReverseWrongFalsely : Prop := fnSpansOfReverseRow.holds Try.pinned (OpenSpec.ofChange fnSpansOfReverseWrong)

/-- 'laws.FnSpansOf': WHATEVER THE INPUT: true; the input reads as it did. -/
def fnSpansOfSpec : ChangeSpec := { name := "fnSpansOf", fn := fun _ => fun
  | [d] => { results := [.lit (.bool true)], args := [d] }
  | _ => none }
def fnSpansOfRow : OpenClaim := { program := "ytcejoknapbhloaa", sum := "0fcb08732881fffeb8b9b28709fa93872d81e49afaa988f0698d0e36ef1eedb9", func := "loop.example/vectorraster/laws.FnSpansOf", spec := "fnSpansOf", unfollowed := true, recurses := true, apart := false }
def FnSpansOfSaid : Prop := fnSpansOfRow.holds Try.pinned (OpenSpec.ofChange fnSpansOfSpec)

/-- ITS FALSE NEIGHBOUR: 'it returns false'. Refute it at one input. -/
def fnSpansOfWrong : ChangeSpec := { name := "fnSpansOf", fn := fun _ => fun
  | [d] => { results := [.lit (.bool false)], args := [d] }
  | _ => none }
def FnSpansOfWrongFalsely : Prop := fnSpansOfRow.holds Try.pinned (OpenSpec.ofChange fnSpansOfWrong)

/- THE SECOND FORM. 'bulk': how many values and letters a reading holds, each counted each time it is reached (what is shared counts as often as it is met; a slice's spare places count too). A statement '..UptoSaid' is the law's where the arguments, and the package variables that the reading takes, are together of bulk at most 1048576: NARROWER than '..Said'. Prove '..Said' where nothing that the law and all that it calls make is longer than what came in: it says more and counts as full. Else prove '..UptoSaid'. A law counts once. -/
mutual
def uptoBulk {H : Type} : DataW H → Nat
  | .lit (.string bytes) => bytes.length + 1
  | .lit _ => 1
  | .nil => 1
  | .ptr d => uptoBulk d + 1
  | .slice elems spare => uptoBulkAll elems + uptoBulkAll spare + 1
  | .agg parts => uptoBulkAll parts + 1
  | .iface _ d => uptoBulk d + 1
  | .map entries => uptoBulkEntries entries + 1
  | .held _ => 1
def uptoBulkAll {H : Type} : List (DataW H) → Nat
  | [] => 0
  | d :: r => uptoBulk d + uptoBulkAll r
def uptoBulkEntries {H : Type} : List (Lit × DataW H) → Nat
  | [] => 0
  | x :: r => uptoBulkEntry x + uptoBulkEntries r
def uptoBulkEntry {H : Type} : Lit × DataW H → Nat
  | (.string bytes, d) => bytes.length + uptoBulk d + 1
  | (_, d) => uptoBulk d + 1
 end
def uptoSmall : (H : Type) → List (DataW H) → Bool := fun _ ds => decide (uptoBulkAll ds ≤ 1048576)
def OpenSpec.upto (s : _root_.Go.ChangeSpec) : _root_.Go.OpenSpec := { _root_.Go.OpenSpec.ofChange s with cond := some uptoSmall }

/-- 'laws.FnCrossesOf', WHERE WHAT IT READS IS OF BULK AT MOST 1048576: true; the input reads as it did. -/
def fnCrossesOfUptoRow : OpenClaim := { program := "ytcejoknapbhloaa", sum := "0fcb08732881fffeb8b9b28709fa93872d81e49afaa988f0698d0e36ef1eedb9", func := "loop.example/vectorraster/laws.FnCrossesOf", spec := "fnCrossesOf", unfollowed := true, recurses := true, apart := false, narrowed := true }
def FnCrossesOfUptoSaid : Prop := fnCrossesOfUptoRow.holds Try.pinned (OpenSpec.upto fnCrossesOfSpec)

/-- 'laws.FnCrossesOfReverse', WHERE WHAT IT READS IS OF BULK AT MOST 1048576: true; the input reads as it did. -/
def fnCrossesOfReverseUptoRow : OpenClaim := { program := "ytcejoknapbhloaa", sum := "0fcb08732881fffeb8b9b28709fa93872d81e49afaa988f0698d0e36ef1eedb9", func := "loop.example/vectorraster/laws.FnCrossesOfReverse", spec := "fnCrossesOfReverse", unfollowed := true, recurses := true, apart := false, narrowed := true }
def FnCrossesOfReverseUptoSaid : Prop := fnCrossesOfReverseUptoRow.holds Try.pinned (OpenSpec.upto fnCrossesOfReverseSpec)

/-- 'laws.FnCrossesOfWinding', WHERE WHAT IT READS IS OF BULK AT MOST 1048576: true; the input reads as it did. -/
def fnCrossesOfWindingUptoRow : OpenClaim := { program := "ytcejoknapbhloaa", sum := "0fcb08732881fffeb8b9b28709fa93872d81e49afaa988f0698d0e36ef1eedb9", func := "loop.example/vectorraster/laws.FnCrossesOfWinding", spec := "fnCrossesOfWinding", unfollowed := true, recurses := true, apart := false, narrowed := true }
def FnCrossesOfWindingUptoSaid : Prop := fnCrossesOfWindingUptoRow.holds Try.pinned (OpenSpec.upto fnCrossesOfWindingSpec)

/-- 'laws.FnSpanCover', WHERE WHAT IT READS IS OF BULK AT MOST 1048576: true; the input reads as it did. -/
def fnSpanCoverUptoRow : OpenClaim := { program := "ytcejoknapbhloaa", sum := "0fcb08732881fffeb8b9b28709fa93872d81e49afaa988f0698d0e36ef1eedb9", func := "loop.example/vectorraster/laws.FnSpanCover", spec := "fnSpanCover", unfollowed := true, recurses := true, apart := false, narrowed := true }
def FnSpanCoverUptoSaid : Prop := fnSpanCoverUptoRow.holds Try.pinned (OpenSpec.upto fnSpanCoverSpec)

/-- 'laws.FnSpansOfApart', WHERE WHAT IT READS IS OF BULK AT MOST 1048576: true; the input reads as it did. -/
def fnSpansOfApartUptoRow : OpenClaim := { program := "ytcejoknapbhloaa", sum := "0fcb08732881fffeb8b9b28709fa93872d81e49afaa988f0698d0e36ef1eedb9", func := "loop.example/vectorraster/laws.FnSpansOfApart", spec := "fnSpansOfApart", unfollowed := true, recurses := true, apart := false, narrowed := true }
def FnSpansOfApartUptoSaid : Prop := fnSpansOfApartUptoRow.holds Try.pinned (OpenSpec.upto fnSpansOfApartSpec)

/-- 'laws.FnSpansOfReverse', WHERE WHAT IT READS IS OF BULK AT MOST 1048576: true; the input reads as it did. -/
def fnSpansOfReverseUptoRow : OpenClaim := { program := "ytcejoknapbhloaa", sum := "0fcb08732881fffeb8b9b28709fa93872d81e49afaa988f0698d0e36ef1eedb9", func := "loop.example/vectorraster/laws.FnSpansOfReverse", spec := "fnSpansOfReverse", unfollowed := true, recurses := true, apart := false, narrowed := true }
def FnSpansOfReverseUptoSaid : Prop := fnSpansOfReverseUptoRow.holds Try.pinned (OpenSpec.upto fnSpansOfReverseSpec)

/-- 'laws.FnSpansOf', WHERE WHAT IT READS IS OF BULK AT MOST 1048576: true; the input reads as it did. -/
def fnSpansOfUptoRow : OpenClaim := { program := "ytcejoknapbhloaa", sum := "0fcb08732881fffeb8b9b28709fa93872d81e49afaa988f0698d0e36ef1eedb9", func := "loop.example/vectorraster/laws.FnSpansOf", spec := "fnSpansOf", unfollowed := true, recurses := true, apart := false, narrowed := true }
def FnSpansOfUptoSaid : Prop := fnSpansOfUptoRow.holds Try.pinned (OpenSpec.upto fnSpansOfSpec)

end Rows
end Go.Proofs.Ytcejoknapbhloaa
