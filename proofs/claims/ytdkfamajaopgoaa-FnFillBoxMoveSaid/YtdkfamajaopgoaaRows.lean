/-
  No cell of these rows narrows 'for every input' (looked for: loops, veiled, ifaces, maps, wideKeys, modest, calm, conditions, laid).
  DERIVED. THE GIVEN ROWS OF THIS SEAT. 12 by the template 'for every input the law returns true; each argument reads behind the call as it read before'; 0 by the template 'total and deterministic' (their statements: YtdkfamajaopgoaaTotals.lean).
  GIVEN WITH THE SEED: the statements are not yours to turn. If you find one false, say at which input.
  Laid BY PROGRAM, IN A SANDBOX (cutbox-rows.mjs): the forced cells as the released guide's own fill.sh prints them over the translation 0b81fdd137ee1705… (all of the seat's roots in one cut). By AI agents, Wed Nov 11 2026. No macro, syntax, notation, axiom, sorry.
-/
import Derived.Test.YtdkfamajaopgoaaChecked
import GoSem.Claim
import GoSem.ClaimJoined
import GoSem.ClaimMapViews
import Derived.JoinedTies
import Derived.KernelRfl
namespace Go.Proofs.Ytdkfamajaopgoaa
/- THE CELL 'sum', in the pinned program and in every row, IS THE sha256 OF THE DUMP (.gsa) THAT YtdkfamajaopgoaaProg.lean LOADS. Nothing in Lean hashes anything: it is a label: what it is worth is what the hold of that sum in a sandbox is worth. -/
noncomputable def Try.pinned : Pinned := { name := "ytdkfamajaopgoaa", sum := "0b81fdd137ee17055cb45ab2872d380aa9ac04232d2de1d00a6dadd23e8ca846", checked := Try.checked }
namespace Rows
def none {H : Type} : Left H := { results := [], args := [] }

/-- 'laws.FnReversePath': WHATEVER THE INPUT: true; the input reads as it did. -/
def fnReversePathSpec : ChangeSpec := { name := "fnReversePath", fn := fun _ => fun
  | [d] => { results := [.lit (.bool true)], args := [d] }
  | _ => none }
def fnReversePathRow : OpenClaim := { program := "ytdkfamajaopgoaa", sum := "0b81fdd137ee17055cb45ab2872d380aa9ac04232d2de1d00a6dadd23e8ca846", func := "loop.example/vectorraster/laws.FnReversePath", spec := "fnReversePath", unfollowed := true, recurses := true, apart := false }
def FnReversePathSaid : Prop := fnReversePathRow.holds Try.pinned (OpenSpec.ofChange fnReversePathSpec)

/-- ITS FALSE NEIGHBOUR: 'it returns false'. Refute it at one input. -/
def fnReversePathWrong : ChangeSpec := { name := "fnReversePath", fn := fun _ => fun
  | [d] => { results := [.lit (.bool false)], args := [d] }
  | _ => none }
def FnReversePathWrongFalsely : Prop := fnReversePathRow.holds Try.pinned (OpenSpec.ofChange fnReversePathWrong)

/-- 'laws.FnMaskOfPart': WHATEVER THE INPUT: true; the input reads as it did. -/
def fnMaskOfPartSpec : ChangeSpec := { name := "fnMaskOfPart", fn := fun _ => fun
  | [d] => { results := [.lit (.bool true)], args := [d] }
  | _ => none }
def fnMaskOfPartRow : OpenClaim := { program := "ytdkfamajaopgoaa", sum := "0b81fdd137ee17055cb45ab2872d380aa9ac04232d2de1d00a6dadd23e8ca846", func := "loop.example/vectorraster/laws.FnMaskOfPart", spec := "fnMaskOfPart", unfollowed := true, recurses := true, apart := false }
def FnMaskOfPartSaid : Prop := fnMaskOfPartRow.holds Try.pinned (OpenSpec.ofChange fnMaskOfPartSpec)

/-- ITS FALSE NEIGHBOUR: 'it returns false'. Refute it at one input. -/
def fnMaskOfPartWrong : ChangeSpec := { name := "fnMaskOfPart", fn := fun _ => fun
  | [d] => { results := [.lit (.bool false)], args := [d] }
  | _ => none }
def FnMaskOfPartWrongFalsely : Prop := fnMaskOfPartRow.holds Try.pinned (OpenSpec.ofChange fnMaskOfPartWrong)

/-- 'laws.FnMaskOf': WHATEVER THE INPUT: true; the input reads as it did. -/
def fnMaskOfSpec : ChangeSpec := { name := "fnMaskOf", fn := fun _ => fun
  | [d] => { results := [.lit (.bool true)], args := [d] }
  | _ => none }
def fnMaskOfRow : OpenClaim := { program := "ytdkfamajaopgoaa", sum := "0b81fdd137ee17055cb45ab2872d380aa9ac04232d2de1d00a6dadd23e8ca846", func := "loop.example/vectorraster/laws.FnMaskOf", spec := "fnMaskOf", unfollowed := true, recurses := true, apart := false }
def FnMaskOfSaid : Prop := fnMaskOfRow.holds Try.pinned (OpenSpec.ofChange fnMaskOfSpec)

/-- ITS FALSE NEIGHBOUR: 'it returns false'. Refute it at one input. -/
def fnMaskOfWrong : ChangeSpec := { name := "fnMaskOf", fn := fun _ => fun
  | [d] => { results := [.lit (.bool false)], args := [d] }
  | _ => none }
def FnMaskOfWrongFalsely : Prop := fnMaskOfRow.holds Try.pinned (OpenSpec.ofChange fnMaskOfWrong)

/-- 'laws.FnMaskOfReverse': WHATEVER THE INPUT: true; the input reads as it did. -/
def fnMaskOfReverseSpec : ChangeSpec := { name := "fnMaskOfReverse", fn := fun _ => fun
  | [d] => { results := [.lit (.bool true)], args := [d] }
  | _ => none }
def fnMaskOfReverseRow : OpenClaim := { program := "ytdkfamajaopgoaa", sum := "0b81fdd137ee17055cb45ab2872d380aa9ac04232d2de1d00a6dadd23e8ca846", func := "loop.example/vectorraster/laws.FnMaskOfReverse", spec := "fnMaskOfReverse", unfollowed := true, recurses := true, apart := false }
def FnMaskOfReverseSaid : Prop := fnMaskOfReverseRow.holds Try.pinned (OpenSpec.ofChange fnMaskOfReverseSpec)

/-- ITS FALSE NEIGHBOUR: 'it returns false'. Refute it at one input. -/
def fnMaskOfReverseWrong : ChangeSpec := { name := "fnMaskOfReverse", fn := fun _ => fun
  | [d] => { results := [.lit (.bool false)], args := [d] }
  | _ => none }
def FnMaskOfReverseWrongFalsely : Prop := fnMaskOfReverseRow.holds Try.pinned (OpenSpec.ofChange fnMaskOfReverseWrong)

/-- 'laws.FnMaskOfMove': WHATEVER THE INPUT: true; the input reads as it did. -/
def fnMaskOfMoveSpec : ChangeSpec := { name := "fnMaskOfMove", fn := fun _ => fun
  | [d] => { results := [.lit (.bool true)], args := [d] }
  | _ => none }
def fnMaskOfMoveRow : OpenClaim := { program := "ytdkfamajaopgoaa", sum := "0b81fdd137ee17055cb45ab2872d380aa9ac04232d2de1d00a6dadd23e8ca846", func := "loop.example/vectorraster/laws.FnMaskOfMove", spec := "fnMaskOfMove", unfollowed := true, recurses := true, apart := false }
def FnMaskOfMoveSaid : Prop := fnMaskOfMoveRow.holds Try.pinned (OpenSpec.ofChange fnMaskOfMoveSpec)

/-- ITS FALSE NEIGHBOUR: 'it returns false'. Refute it at one input. -/
def fnMaskOfMoveWrong : ChangeSpec := { name := "fnMaskOfMove", fn := fun _ => fun
  | [d] => { results := [.lit (.bool false)], args := [d] }
  | _ => none }
def FnMaskOfMoveWrongFalsely : Prop := fnMaskOfMoveRow.holds Try.pinned (OpenSpec.ofChange fnMaskOfMoveWrong)

/-- 'laws.FnValidScene': WHATEVER THE INPUT: true; the input reads as it did. -/
def fnValidSceneSpec : ChangeSpec := { name := "fnValidScene", fn := fun _ => fun
  | [d] => { results := [.lit (.bool true)], args := [d] }
  | _ => none }
def fnValidSceneRow : OpenClaim := { program := "ytdkfamajaopgoaa", sum := "0b81fdd137ee17055cb45ab2872d380aa9ac04232d2de1d00a6dadd23e8ca846", func := "loop.example/vectorraster/laws.FnValidScene", spec := "fnValidScene", unfollowed := true, recurses := true, apart := false }
def FnValidSceneSaid : Prop := fnValidSceneRow.holds Try.pinned (OpenSpec.ofChange fnValidSceneSpec)

/-- ITS FALSE NEIGHBOUR: 'it returns false'. Refute it at one input. -/
def fnValidSceneWrong : ChangeSpec := { name := "fnValidScene", fn := fun _ => fun
  | [d] => { results := [.lit (.bool false)], args := [d] }
  | _ => none }
def FnValidSceneWrongFalsely : Prop := fnValidSceneRow.holds Try.pinned (OpenSpec.ofChange fnValidSceneWrong)

/-- 'laws.FnTileMask': WHATEVER THE INPUT: true; the input reads as it did. -/
def fnTileMaskSpec : ChangeSpec := { name := "fnTileMask", fn := fun _ => fun
  | [d] => { results := [.lit (.bool true)], args := [d] }
  | _ => none }
def fnTileMaskRow : OpenClaim := { program := "ytdkfamajaopgoaa", sum := "0b81fdd137ee17055cb45ab2872d380aa9ac04232d2de1d00a6dadd23e8ca846", func := "loop.example/vectorraster/laws.FnTileMask", spec := "fnTileMask", unfollowed := true, recurses := true, apart := false }
def FnTileMaskSaid : Prop := fnTileMaskRow.holds Try.pinned (OpenSpec.ofChange fnTileMaskSpec)

/-- ITS FALSE NEIGHBOUR: 'it returns false'. Refute it at one input. -/
def fnTileMaskWrong : ChangeSpec := { name := "fnTileMask", fn := fun _ => fun
  | [d] => { results := [.lit (.bool false)], args := [d] }
  | _ => none }
def FnTileMaskWrongFalsely : Prop := fnTileMaskRow.holds Try.pinned (OpenSpec.ofChange fnTileMaskWrong)

/-- 'laws.FnTileMaskReverse': WHATEVER THE INPUT: true; the input reads as it did. -/
def fnTileMaskReverseSpec : ChangeSpec := { name := "fnTileMaskReverse", fn := fun _ => fun
  | [d] => { results := [.lit (.bool true)], args := [d] }
  | _ => none }
def fnTileMaskReverseRow : OpenClaim := { program := "ytdkfamajaopgoaa", sum := "0b81fdd137ee17055cb45ab2872d380aa9ac04232d2de1d00a6dadd23e8ca846", func := "loop.example/vectorraster/laws.FnTileMaskReverse", spec := "fnTileMaskReverse", unfollowed := true, recurses := true, apart := false }
def FnTileMaskReverseSaid : Prop := fnTileMaskReverseRow.holds Try.pinned (OpenSpec.ofChange fnTileMaskReverseSpec)

/-- ITS FALSE NEIGHBOUR: 'it returns false'. Refute it at one input. -/
def fnTileMaskReverseWrong : ChangeSpec := { name := "fnTileMaskReverse", fn := fun _ => fun
  | [d] => { results := [.lit (.bool false)], args := [d] }
  | _ => none }
def FnTileMaskReverseWrongFalsely : Prop := fnTileMaskReverseRow.holds Try.pinned (OpenSpec.ofChange fnTileMaskReverseWrong)

/-- 'laws.FnTileMaskEmpty': WHATEVER THE INPUT: true; the input reads as it did. -/
def fnTileMaskEmptySpec : ChangeSpec := { name := "fnTileMaskEmpty", fn := fun _ => fun
  | [d] => { results := [.lit (.bool true)], args := [d] }
  | _ => none }
def fnTileMaskEmptyRow : OpenClaim := { program := "ytdkfamajaopgoaa", sum := "0b81fdd137ee17055cb45ab2872d380aa9ac04232d2de1d00a6dadd23e8ca846", func := "loop.example/vectorraster/laws.FnTileMaskEmpty", spec := "fnTileMaskEmpty", unfollowed := true, recurses := true, apart := false }
def FnTileMaskEmptySaid : Prop := fnTileMaskEmptyRow.holds Try.pinned (OpenSpec.ofChange fnTileMaskEmptySpec)

/-- ITS FALSE NEIGHBOUR: 'it returns false'. Refute it at one input. -/
def fnTileMaskEmptyWrong : ChangeSpec := { name := "fnTileMaskEmpty", fn := fun _ => fun
  | [d] => { results := [.lit (.bool false)], args := [d] }
  | _ => none }
def FnTileMaskEmptyWrongFalsely : Prop := fnTileMaskEmptyRow.holds Try.pinned (OpenSpec.ofChange fnTileMaskEmptyWrong)

/-- 'laws.FnFillBoxMove': WHATEVER THE INPUT: true; the input reads as it did. -/
def fnFillBoxMoveSpec : ChangeSpec := { name := "fnFillBoxMove", fn := fun _ => fun
  | [d] => { results := [.lit (.bool true)], args := [d] }
  | _ => none }
def fnFillBoxMoveRow : OpenClaim := { program := "ytdkfamajaopgoaa", sum := "0b81fdd137ee17055cb45ab2872d380aa9ac04232d2de1d00a6dadd23e8ca846", func := "loop.example/vectorraster/laws.FnFillBoxMove", spec := "fnFillBoxMove", unfollowed := true, recurses := true, apart := false }
def FnFillBoxMoveSaid : Prop := fnFillBoxMoveRow.holds Try.pinned (OpenSpec.ofChange fnFillBoxMoveSpec)

/-- ITS FALSE NEIGHBOUR: 'it returns false'. Refute it at one input. -/
def fnFillBoxMoveWrong : ChangeSpec := { name := "fnFillBoxMove", fn := fun _ => fun
  | [d] => { results := [.lit (.bool false)], args := [d] }
  | _ => none }
def FnFillBoxMoveWrongFalsely : Prop := fnFillBoxMoveRow.holds Try.pinned (OpenSpec.ofChange fnFillBoxMoveWrong)

/-- 'laws.FnTopFill': WHATEVER THE INPUT: true; the input reads as it did. -/
def fnTopFillSpec : ChangeSpec := { name := "fnTopFill", fn := fun _ => fun
  | [d] => { results := [.lit (.bool true)], args := [d] }
  | _ => none }
def fnTopFillRow : OpenClaim := { program := "ytdkfamajaopgoaa", sum := "0b81fdd137ee17055cb45ab2872d380aa9ac04232d2de1d00a6dadd23e8ca846", func := "loop.example/vectorraster/laws.FnTopFill", spec := "fnTopFill", unfollowed := true, recurses := true, apart := false }
def FnTopFillSaid : Prop := fnTopFillRow.holds Try.pinned (OpenSpec.ofChange fnTopFillSpec)

/-- ITS FALSE NEIGHBOUR: 'it returns false'. Refute it at one input. -/
def fnTopFillWrong : ChangeSpec := { name := "fnTopFill", fn := fun _ => fun
  | [d] => { results := [.lit (.bool false)], args := [d] }
  | _ => none }
def FnTopFillWrongFalsely : Prop := fnTopFillRow.holds Try.pinned (OpenSpec.ofChange fnTopFillWrong)

/-- 'laws.FnTopFillNone': WHATEVER THE INPUT: true; the input reads as it did. -/
def fnTopFillNoneSpec : ChangeSpec := { name := "fnTopFillNone", fn := fun _ => fun
  | [d] => { results := [.lit (.bool true)], args := [d] }
  | _ => none }
def fnTopFillNoneRow : OpenClaim := { program := "ytdkfamajaopgoaa", sum := "0b81fdd137ee17055cb45ab2872d380aa9ac04232d2de1d00a6dadd23e8ca846", func := "loop.example/vectorraster/laws.FnTopFillNone", spec := "fnTopFillNone", unfollowed := true, recurses := true, apart := false }
def FnTopFillNoneSaid : Prop := fnTopFillNoneRow.holds Try.pinned (OpenSpec.ofChange fnTopFillNoneSpec)

/-- ITS FALSE NEIGHBOUR: 'it returns false'. Refute it at one input. -/
def fnTopFillNoneWrong : ChangeSpec := { name := "fnTopFillNone", fn := fun _ => fun
  | [d] => { results := [.lit (.bool false)], args := [d] }
  | _ => none }
def FnTopFillNoneWrongFalsely : Prop := fnTopFillNoneRow.holds Try.pinned (OpenSpec.ofChange fnTopFillNoneWrong)

/- THE SECOND FORM. 'bulk': how many values and letters a reading holds, each counted each time it is reached (what is shared counts as often as it is met; a slice's spare places count too). A statement '..UptoSaid' is the law's where the arguments, and the package variables that the reading takes, are together of bulk at most 1048576: NARROWER than '..Said'. Prove '..Said' where nothing that the law and all that it calls make is longer than what came in: it says more and counts as full. Else prove '..UptoSaid'. A law counts once. -/
mutual
def uptoBulk {H : Type} : DataW H → Nat
  | .lit (.string bytes) => bytes.length + 1
  | .lit _ => 1
  | .nil => 1
  | .ptr d => uptoBulk d + 1
  | .slice elems spare => uptoBulkAll elems + uptoBulkAll spare + 1
  | .agg parts => uptoBulkAll parts + 1
  | .iface _ d => uptoBulk d + 1
  | .map entries => uptoBulkEntries entries + 1
  | .held _ => 1
def uptoBulkAll {H : Type} : List (DataW H) → Nat
  | [] => 0
  | d :: r => uptoBulk d + uptoBulkAll r
def uptoBulkEntries {H : Type} : List (Lit × DataW H) → Nat
  | [] => 0
  | x :: r => uptoBulkEntry x + uptoBulkEntries r
def uptoBulkEntry {H : Type} : Lit × DataW H → Nat
  | (.string bytes, d) => bytes.length + uptoBulk d + 1
  | (_, d) => uptoBulk d + 1
 end
def uptoSmall : (H : Type) → List (DataW H) → Bool := fun _ ds => decide (uptoBulkAll ds ≤ 1048576)
def OpenSpec.upto (s : _root_.Go.ChangeSpec) : _root_.Go.OpenSpec := { _root_.Go.OpenSpec.ofChange s with cond := some uptoSmall }

/-- 'laws.FnReversePath', WHERE WHAT IT READS IS OF BULK AT MOST 1048576: true; the input reads as it did. -/
def fnReversePathUptoRow : OpenClaim := { program := "ytdkfamajaopgoaa", sum := "0b81fdd137ee17055cb45ab2872d380aa9ac04232d2de1d00a6dadd23e8ca846", func := "loop.example/vectorraster/laws.FnReversePath", spec := "fnReversePath", unfollowed := true, recurses := true, apart := false, narrowed := true }
def FnReversePathUptoSaid : Prop := fnReversePathUptoRow.holds Try.pinned (OpenSpec.upto fnReversePathSpec)

/-- 'laws.FnMaskOfPart', WHERE WHAT IT READS IS OF BULK AT MOST 1048576: true; the input reads as it did. -/
def fnMaskOfPartUptoRow : OpenClaim := { program := "ytdkfamajaopgoaa", sum := "0b81fdd137ee17055cb45ab2872d380aa9ac04232d2de1d00a6dadd23e8ca846", func := "loop.example/vectorraster/laws.FnMaskOfPart", spec := "fnMaskOfPart", unfollowed := true, recurses := true, apart := false, narrowed := true }
def FnMaskOfPartUptoSaid : Prop := fnMaskOfPartUptoRow.holds Try.pinned (OpenSpec.upto fnMaskOfPartSpec)

/-- 'laws.FnMaskOf', WHERE WHAT IT READS IS OF BULK AT MOST 1048576: true; the input reads as it did. -/
def fnMaskOfUptoRow : OpenClaim := { program := "ytdkfamajaopgoaa", sum := "0b81fdd137ee17055cb45ab2872d380aa9ac04232d2de1d00a6dadd23e8ca846", func := "loop.example/vectorraster/laws.FnMaskOf", spec := "fnMaskOf", unfollowed := true, recurses := true, apart := false, narrowed := true }
def FnMaskOfUptoSaid : Prop := fnMaskOfUptoRow.holds Try.pinned (OpenSpec.upto fnMaskOfSpec)

/-- 'laws.FnMaskOfReverse', WHERE WHAT IT READS IS OF BULK AT MOST 1048576: true; the input reads as it did. -/
def fnMaskOfReverseUptoRow : OpenClaim := { program := "ytdkfamajaopgoaa", sum := "0b81fdd137ee17055cb45ab2872d380aa9ac04232d2de1d00a6dadd23e8ca846", func := "loop.example/vectorraster/laws.FnMaskOfReverse", spec := "fnMaskOfReverse", unfollowed := true, recurses := true, apart := false, narrowed := true }
def FnMaskOfReverseUptoSaid : Prop := fnMaskOfReverseUptoRow.holds Try.pinned (OpenSpec.upto fnMaskOfReverseSpec)

/-- 'laws.FnMaskOfMove', WHERE WHAT IT READS IS OF BULK AT MOST 1048576: true; the input reads as it did. -/
def fnMaskOfMoveUptoRow : OpenClaim := { program := "ytdkfamajaopgoaa", sum := "0b81fdd137ee17055cb45ab2872d380aa9ac04232d2de1d00a6dadd23e8ca846", func := "loop.example/vectorraster/laws.FnMaskOfMove", spec := "fnMaskOfMove", unfollowed := true, recurses := true, apart := false, narrowed := true }
def FnMaskOfMoveUptoSaid : Prop := fnMaskOfMoveUptoRow.holds Try.pinned (OpenSpec.upto fnMaskOfMoveSpec)

/-- 'laws.FnValidScene', WHERE WHAT IT READS IS OF BULK AT MOST 1048576: true; the input reads as it did. -/
def fnValidSceneUptoRow : OpenClaim := { program := "ytdkfamajaopgoaa", sum := "0b81fdd137ee17055cb45ab2872d380aa9ac04232d2de1d00a6dadd23e8ca846", func := "loop.example/vectorraster/laws.FnValidScene", spec := "fnValidScene", unfollowed := true, recurses := true, apart := false, narrowed := true }
def FnValidSceneUptoSaid : Prop := fnValidSceneUptoRow.holds Try.pinned (OpenSpec.upto fnValidSceneSpec)

/-- 'laws.FnTileMask', WHERE WHAT IT READS IS OF BULK AT MOST 1048576: true; the input reads as it did. -/
def fnTileMaskUptoRow : OpenClaim := { program := "ytdkfamajaopgoaa", sum := "0b81fdd137ee17055cb45ab2872d380aa9ac04232d2de1d00a6dadd23e8ca846", func := "loop.example/vectorraster/laws.FnTileMask", spec := "fnTileMask", unfollowed := true, recurses := true, apart := false, narrowed := true }
def FnTileMaskUptoSaid : Prop := fnTileMaskUptoRow.holds Try.pinned (OpenSpec.upto fnTileMaskSpec)

/-- 'laws.FnTileMaskReverse', WHERE WHAT IT READS IS OF BULK AT MOST 1048576: true; the input reads as it did. -/
def fnTileMaskReverseUptoRow : OpenClaim := { program := "ytdkfamajaopgoaa", sum := "0b81fdd137ee17055cb45ab2872d380aa9ac04232d2de1d00a6dadd23e8ca846", func := "loop.example/vectorraster/laws.FnTileMaskReverse", spec := "fnTileMaskReverse", unfollowed := true, recurses := true, apart := false, narrowed := true }
def FnTileMaskReverseUptoSaid : Prop := fnTileMaskReverseUptoRow.holds Try.pinned (OpenSpec.upto fnTileMaskReverseSpec)

/-- 'laws.FnTileMaskEmpty', WHERE WHAT IT READS IS OF BULK AT MOST 1048576: true; the input reads as it did. -/
def fnTileMaskEmptyUptoRow : OpenClaim := { program := "ytdkfamajaopgoaa", sum := "0b81fdd137ee17055cb45ab2872d380aa9ac04232d2de1d00a6dadd23e8ca846", func := "loop.example/vectorraster/laws.FnTileMaskEmpty", spec := "fnTileMaskEmpty", unfollowed := true, recurses := true, apart := false, narrowed := true }
def FnTileMaskEmptyUptoSaid : Prop := fnTileMaskEmptyUptoRow.holds Try.pinned (OpenSpec.upto fnTileMaskEmptySpec)

/-- 'laws.FnFillBoxMove', WHERE WHAT IT READS IS OF BULK AT MOST 1048576: true; the input reads as it did. -/
def fnFillBoxMoveUptoRow : OpenClaim := { program := "ytdkfamajaopgoaa", sum := "0b81fdd137ee17055cb45ab2872d380aa9ac04232d2de1d00a6dadd23e8ca846", func := "loop.example/vectorraster/laws.FnFillBoxMove", spec := "fnFillBoxMove", unfollowed := true, recurses := true, apart := false, narrowed := true }
def FnFillBoxMoveUptoSaid : Prop := fnFillBoxMoveUptoRow.holds Try.pinned (OpenSpec.upto fnFillBoxMoveSpec)

/-- 'laws.FnTopFill', WHERE WHAT IT READS IS OF BULK AT MOST 1048576: true; the input reads as it did. -/
def fnTopFillUptoRow : OpenClaim := { program := "ytdkfamajaopgoaa", sum := "0b81fdd137ee17055cb45ab2872d380aa9ac04232d2de1d00a6dadd23e8ca846", func := "loop.example/vectorraster/laws.FnTopFill", spec := "fnTopFill", unfollowed := true, recurses := true, apart := false, narrowed := true }
def FnTopFillUptoSaid : Prop := fnTopFillUptoRow.holds Try.pinned (OpenSpec.upto fnTopFillSpec)

/-- 'laws.FnTopFillNone', WHERE WHAT IT READS IS OF BULK AT MOST 1048576: true; the input reads as it did. -/
def fnTopFillNoneUptoRow : OpenClaim := { program := "ytdkfamajaopgoaa", sum := "0b81fdd137ee17055cb45ab2872d380aa9ac04232d2de1d00a6dadd23e8ca846", func := "loop.example/vectorraster/laws.FnTopFillNone", spec := "fnTopFillNone", unfollowed := true, recurses := true, apart := false, narrowed := true }
def FnTopFillNoneUptoSaid : Prop := fnTopFillNoneUptoRow.holds Try.pinned (OpenSpec.upto fnTopFillNoneSpec)

end Rows
end Go.Proofs.Ytdkfamajaopgoaa
