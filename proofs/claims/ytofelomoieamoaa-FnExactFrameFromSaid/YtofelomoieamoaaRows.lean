/-
  No cell of these rows narrows 'for every input' (looked for: loops, veiled, ifaces, maps, wideKeys, modest, calm, conditions, laid).
  DERIVED. THE GIVEN ROWS OF THIS SEAT. 9 by the template 'for every input the law returns true; each argument reads behind the call as it read before'; 0 by the template 'total and deterministic' (their statements: YtofelomoieamoaaTotals.lean).
  GIVEN WITH THE SEED: the statements are not yours to turn. If you find one false, say at which input.
  Laid BY PROGRAM, IN A SANDBOX (cutbox-rows.mjs): the forced cells as the released guide's own fill.sh prints them over the translation 6e2bdc83e09a476a… (all of the seat's roots in one cut). By AI agents, Wed Nov 11 2026. No macro, syntax, notation, axiom, sorry.
-/
import Derived.Test.YtofelomoieamoaaChecked
import GoSem.Claim
import GoSem.ClaimJoined
import GoSem.ClaimMapViews
import Derived.JoinedTies
import Derived.KernelRfl
namespace Go.Proofs.Ytofelomoieamoaa
/- THE CELL 'sum', in the pinned program and in every row, IS THE sha256 OF THE DUMP (.gsa) THAT YtofelomoieamoaaProg.lean LOADS. Nothing in Lean hashes anything: it is a label: what it is worth is what the hold of that sum in a sandbox is worth. -/
noncomputable def Try.pinned : Pinned := { name := "ytofelomoieamoaa", sum := "6e2bdc83e09a476ab7cd137383c90ce369edb78ea30c08939e10b5d02982f4d4", checked := Try.checked }
namespace Rows
def none {H : Type} : Left H := { results := [], args := [] }

/-- 'laws.FnBlankFrame': WHATEVER THE INPUT: true; the input reads as it did. -/
def fnBlankFrameSpec : ChangeSpec := { name := "fnBlankFrame", fn := fun _ => fun
  | [d] => { results := [.lit (.bool true)], args := [d] }
  | _ => none }
def fnBlankFrameRow : OpenClaim := { program := "ytofelomoieamoaa", sum := "6e2bdc83e09a476ab7cd137383c90ce369edb78ea30c08939e10b5d02982f4d4", func := "loop.example/vectorraster/laws.FnBlankFrame", spec := "fnBlankFrame", unfollowed := true, recurses := true, plainKeys := false, apart := false }
def FnBlankFrameSaid : Prop := fnBlankFrameRow.holds Try.pinned (OpenSpec.ofChange fnBlankFrameSpec)

/-- ITS FALSE NEIGHBOUR: 'it returns false'. Refute it at one input. -/
def fnBlankFrameWrong : ChangeSpec := { name := "fnBlankFrame", fn := fun _ => fun
  | [d] => { results := [.lit (.bool false)], args := [d] }
  | _ => none }
def FnBlankFrameWrongFalsely : Prop := fnBlankFrameRow.holds Try.pinned (OpenSpec.ofChange fnBlankFrameWrong)

/-- 'laws.FnExactColorCount': WHATEVER THE INPUT: true; the input reads as it did. -/
def fnExactColorCountSpec : ChangeSpec := { name := "fnExactColorCount", fn := fun _ => fun
  | [d] => { results := [.lit (.bool true)], args := [d] }
  | _ => none }
def fnExactColorCountRow : OpenClaim := { program := "ytofelomoieamoaa", sum := "6e2bdc83e09a476ab7cd137383c90ce369edb78ea30c08939e10b5d02982f4d4", func := "loop.example/vectorraster/laws.FnExactColorCount", spec := "fnExactColorCount", unfollowed := true, recurses := true, plainKeys := false, apart := false }
def FnExactColorCountSaid : Prop := fnExactColorCountRow.holds Try.pinned (OpenSpec.ofChange fnExactColorCountSpec)

/-- ITS FALSE NEIGHBOUR: 'it returns false'. Refute it at one input. -/
def fnExactColorCountWrong : ChangeSpec := { name := "fnExactColorCount", fn := fun _ => fun
  | [d] => { results := [.lit (.bool false)], args := [d] }
  | _ => none }
def FnExactColorCountWrongFalsely : Prop := fnExactColorCountRow.holds Try.pinned (OpenSpec.ofChange fnExactColorCountWrong)

/-- 'laws.FnRunsOfLong': WHATEVER THE INPUT: true; the input reads as it did. -/
def fnRunsOfLongSpec : ChangeSpec := { name := "fnRunsOfLong", fn := fun _ => fun
  | [d] => { results := [.lit (.bool true)], args := [d] }
  | _ => none }
def fnRunsOfLongRow : OpenClaim := { program := "ytofelomoieamoaa", sum := "6e2bdc83e09a476ab7cd137383c90ce369edb78ea30c08939e10b5d02982f4d4", func := "loop.example/vectorraster/laws.FnRunsOfLong", spec := "fnRunsOfLong", unfollowed := true, recurses := true, plainKeys := false, apart := false }
def FnRunsOfLongSaid : Prop := fnRunsOfLongRow.holds Try.pinned (OpenSpec.ofChange fnRunsOfLongSpec)

/-- ITS FALSE NEIGHBOUR: 'it returns false'. Refute it at one input. -/
def fnRunsOfLongWrong : ChangeSpec := { name := "fnRunsOfLong", fn := fun _ => fun
  | [d] => { results := [.lit (.bool false)], args := [d] }
  | _ => none }
def FnRunsOfLongWrongFalsely : Prop := fnRunsOfLongRow.holds Try.pinned (OpenSpec.ofChange fnRunsOfLongWrong)

/-- 'laws.FnColorCount': WHATEVER THE INPUT: true; the input reads as it did. -/
def fnColorCountSpec : ChangeSpec := { name := "fnColorCount", fn := fun _ => fun
  | [d] => { results := [.lit (.bool true)], args := [d] }
  | _ => none }
def fnColorCountRow : OpenClaim := { program := "ytofelomoieamoaa", sum := "6e2bdc83e09a476ab7cd137383c90ce369edb78ea30c08939e10b5d02982f4d4", func := "loop.example/vectorraster/laws.FnColorCount", spec := "fnColorCount", unfollowed := true, recurses := true, plainKeys := false, apart := false }
def FnColorCountSaid : Prop := fnColorCountRow.holds Try.pinned (OpenSpec.ofChange fnColorCountSpec)

/-- ITS FALSE NEIGHBOUR: 'it returns false'. Refute it at one input. -/
def fnColorCountWrong : ChangeSpec := { name := "fnColorCount", fn := fun _ => fun
  | [d] => { results := [.lit (.bool false)], args := [d] }
  | _ => none }
def FnColorCountWrongFalsely : Prop := fnColorCountRow.holds Try.pinned (OpenSpec.ofChange fnColorCountWrong)

/-- 'laws.FnRunsOfBlank': WHATEVER THE INPUT: true; the input reads as it did. -/
def fnRunsOfBlankSpec : ChangeSpec := { name := "fnRunsOfBlank", fn := fun _ => fun
  | [d] => { results := [.lit (.bool true)], args := [d] }
  | _ => none }
def fnRunsOfBlankRow : OpenClaim := { program := "ytofelomoieamoaa", sum := "6e2bdc83e09a476ab7cd137383c90ce369edb78ea30c08939e10b5d02982f4d4", func := "loop.example/vectorraster/laws.FnRunsOfBlank", spec := "fnRunsOfBlank", unfollowed := true, recurses := true, plainKeys := false, apart := false }
def FnRunsOfBlankSaid : Prop := fnRunsOfBlankRow.holds Try.pinned (OpenSpec.ofChange fnRunsOfBlankSpec)

/-- ITS FALSE NEIGHBOUR: 'it returns false'. Refute it at one input. -/
def fnRunsOfBlankWrong : ChangeSpec := { name := "fnRunsOfBlank", fn := fun _ => fun
  | [d] => { results := [.lit (.bool false)], args := [d] }
  | _ => none }
def FnRunsOfBlankWrongFalsely : Prop := fnRunsOfBlankRow.holds Try.pinned (OpenSpec.ofChange fnRunsOfBlankWrong)

/-- 'laws.FnExactRunsOf': WHATEVER THE INPUT: true; the input reads as it did. -/
def fnExactRunsOfSpec : ChangeSpec := { name := "fnExactRunsOf", fn := fun _ => fun
  | [d] => { results := [.lit (.bool true)], args := [d] }
  | _ => none }
def fnExactRunsOfRow : OpenClaim := { program := "ytofelomoieamoaa", sum := "6e2bdc83e09a476ab7cd137383c90ce369edb78ea30c08939e10b5d02982f4d4", func := "loop.example/vectorraster/laws.FnExactRunsOf", spec := "fnExactRunsOf", unfollowed := true, recurses := true, plainKeys := false, apart := false }
def FnExactRunsOfSaid : Prop := fnExactRunsOfRow.holds Try.pinned (OpenSpec.ofChange fnExactRunsOfSpec)

/-- ITS FALSE NEIGHBOUR: 'it returns false'. Refute it at one input. -/
def fnExactRunsOfWrong : ChangeSpec := { name := "fnExactRunsOf", fn := fun _ => fun
  | [d] => { results := [.lit (.bool false)], args := [d] }
  | _ => none }
def FnExactRunsOfWrongFalsely : Prop := fnExactRunsOfRow.holds Try.pinned (OpenSpec.ofChange fnExactRunsOfWrong)

/-- 'laws.FnRunsOf': WHATEVER THE INPUT: true; the input reads as it did. -/
def fnRunsOfSpec : ChangeSpec := { name := "fnRunsOf", fn := fun _ => fun
  | [d] => { results := [.lit (.bool true)], args := [d] }
  | _ => none }
def fnRunsOfRow : OpenClaim := { program := "ytofelomoieamoaa", sum := "6e2bdc83e09a476ab7cd137383c90ce369edb78ea30c08939e10b5d02982f4d4", func := "loop.example/vectorraster/laws.FnRunsOf", spec := "fnRunsOf", unfollowed := true, recurses := true, plainKeys := false, apart := false }
def FnRunsOfSaid : Prop := fnRunsOfRow.holds Try.pinned (OpenSpec.ofChange fnRunsOfSpec)

/-- ITS FALSE NEIGHBOUR: 'it returns false'. Refute it at one input. -/
def fnRunsOfWrong : ChangeSpec := { name := "fnRunsOf", fn := fun _ => fun
  | [d] => { results := [.lit (.bool false)], args := [d] }
  | _ => none }
def FnRunsOfWrongFalsely : Prop := fnRunsOfRow.holds Try.pinned (OpenSpec.ofChange fnRunsOfWrong)

/-- 'laws.FnFrameFrom': WHATEVER THE INPUT: true; the input reads as it did. -/
def fnFrameFromSpec : ChangeSpec := { name := "fnFrameFrom", fn := fun _ => fun
  | [d] => { results := [.lit (.bool true)], args := [d] }
  | _ => none }
def fnFrameFromRow : OpenClaim := { program := "ytofelomoieamoaa", sum := "6e2bdc83e09a476ab7cd137383c90ce369edb78ea30c08939e10b5d02982f4d4", func := "loop.example/vectorraster/laws.FnFrameFrom", spec := "fnFrameFrom", unfollowed := true, recurses := true, plainKeys := false, apart := false }
def FnFrameFromSaid : Prop := fnFrameFromRow.holds Try.pinned (OpenSpec.ofChange fnFrameFromSpec)

/-- ITS FALSE NEIGHBOUR: 'it returns false'. Refute it at one input. -/
def fnFrameFromWrong : ChangeSpec := { name := "fnFrameFrom", fn := fun _ => fun
  | [d] => { results := [.lit (.bool false)], args := [d] }
  | _ => none }
def FnFrameFromWrongFalsely : Prop := fnFrameFromRow.holds Try.pinned (OpenSpec.ofChange fnFrameFromWrong)

/-- 'laws.FnExactFrameFrom': WHATEVER THE INPUT: true; the input reads as it did. -/
def fnExactFrameFromSpec : ChangeSpec := { name := "fnExactFrameFrom", fn := fun _ => fun
  | [d1, d2, d3] => { results := [.lit (.bool true)], args := [d1, d2, d3] }
  | _ => none }
def fnExactFrameFromRow : OpenClaim := { program := "ytofelomoieamoaa", sum := "6e2bdc83e09a476ab7cd137383c90ce369edb78ea30c08939e10b5d02982f4d4", func := "loop.example/vectorraster/laws.FnExactFrameFrom", spec := "fnExactFrameFrom", unfollowed := true, recurses := true, plainKeys := false, apart := false }
def FnExactFrameFromSaid : Prop := fnExactFrameFromRow.holds Try.pinned (OpenSpec.ofChange fnExactFrameFromSpec)

/-- ITS FALSE NEIGHBOUR: 'it returns false'. Refute it at one input. -/
def fnExactFrameFromWrong : ChangeSpec := { name := "fnExactFrameFrom", fn := fun _ => fun
  | [d1, d2, d3] => { results := [.lit (.bool false)], args := [d1, d2, d3] }
  | _ => none }
def FnExactFrameFromWrongFalsely : Prop := fnExactFrameFromRow.holds Try.pinned (OpenSpec.ofChange fnExactFrameFromWrong)

/- THE SECOND FORM. 'bulk': how many values and letters a reading holds, each counted each time it is reached (what is shared counts as often as it is met; a slice's spare places count too). A statement '..UptoSaid' is the law's where the arguments, and the package variables that the reading takes, are together of bulk at most 1048576: NARROWER than '..Said'. Prove '..Said' where nothing that the law and all that it calls make is longer than what came in: it says more and counts as full. Else prove '..UptoSaid'. A law counts once. -/
mutual
def uptoBulk {H : Type} : DataW H → Nat
  | .lit (.string bytes) => bytes.length + 1
  | .lit _ => 1
  | .nil => 1
  | .ptr d => uptoBulk d + 1
  | .slice elems spare => uptoBulkAll elems + uptoBulkAll spare + 1
  | .agg parts => uptoBulkAll parts + 1
  | .iface _ d => uptoBulk d + 1
  | .map entries => uptoBulkEntries entries + 1
  | .held _ => 1
def uptoBulkAll {H : Type} : List (DataW H) → Nat
  | [] => 0
  | d :: r => uptoBulk d + uptoBulkAll r
def uptoBulkEntries {H : Type} : List (Lit × DataW H) → Nat
  | [] => 0
  | x :: r => uptoBulkEntry x + uptoBulkEntries r
def uptoBulkEntry {H : Type} : Lit × DataW H → Nat
  | (.string bytes, d) => bytes.length + uptoBulk d + 1
  | (_, d) => uptoBulk d + 1
 end
def uptoSmall : (H : Type) → List (DataW H) → Bool := fun _ ds => decide (uptoBulkAll ds ≤ 1048576)
def OpenSpec.upto (s : _root_.Go.ChangeSpec) : _root_.Go.OpenSpec := { _root_.Go.OpenSpec.ofChange s with cond := some uptoSmall }

/-- 'laws.FnBlankFrame', WHERE WHAT IT READS IS OF BULK AT MOST 1048576: true; the input reads as it did. -/
def fnBlankFrameUptoRow : OpenClaim := { program := "ytofelomoieamoaa", sum := "6e2bdc83e09a476ab7cd137383c90ce369edb78ea30c08939e10b5d02982f4d4", func := "loop.example/vectorraster/laws.FnBlankFrame", spec := "fnBlankFrame", unfollowed := true, recurses := true, plainKeys := false, apart := false, narrowed := true }
def FnBlankFrameUptoSaid : Prop := fnBlankFrameUptoRow.holds Try.pinned (OpenSpec.upto fnBlankFrameSpec)

/-- 'laws.FnExactColorCount', WHERE WHAT IT READS IS OF BULK AT MOST 1048576: true; the input reads as it did. -/
def fnExactColorCountUptoRow : OpenClaim := { program := "ytofelomoieamoaa", sum := "6e2bdc83e09a476ab7cd137383c90ce369edb78ea30c08939e10b5d02982f4d4", func := "loop.example/vectorraster/laws.FnExactColorCount", spec := "fnExactColorCount", unfollowed := true, recurses := true, plainKeys := false, apart := false, narrowed := true }
def FnExactColorCountUptoSaid : Prop := fnExactColorCountUptoRow.holds Try.pinned (OpenSpec.upto fnExactColorCountSpec)

/-- 'laws.FnRunsOfLong', WHERE WHAT IT READS IS OF BULK AT MOST 1048576: true; the input reads as it did. -/
def fnRunsOfLongUptoRow : OpenClaim := { program := "ytofelomoieamoaa", sum := "6e2bdc83e09a476ab7cd137383c90ce369edb78ea30c08939e10b5d02982f4d4", func := "loop.example/vectorraster/laws.FnRunsOfLong", spec := "fnRunsOfLong", unfollowed := true, recurses := true, plainKeys := false, apart := false, narrowed := true }
def FnRunsOfLongUptoSaid : Prop := fnRunsOfLongUptoRow.holds Try.pinned (OpenSpec.upto fnRunsOfLongSpec)

/-- 'laws.FnColorCount', WHERE WHAT IT READS IS OF BULK AT MOST 1048576: true; the input reads as it did. -/
def fnColorCountUptoRow : OpenClaim := { program := "ytofelomoieamoaa", sum := "6e2bdc83e09a476ab7cd137383c90ce369edb78ea30c08939e10b5d02982f4d4", func := "loop.example/vectorraster/laws.FnColorCount", spec := "fnColorCount", unfollowed := true, recurses := true, plainKeys := false, apart := false, narrowed := true }
def FnColorCountUptoSaid : Prop := fnColorCountUptoRow.holds Try.pinned (OpenSpec.upto fnColorCountSpec)

/-- 'laws.FnRunsOfBlank', WHERE WHAT IT READS IS OF BULK AT MOST 1048576: true; the input reads as it did. -/
def fnRunsOfBlankUptoRow : OpenClaim := { program := "ytofelomoieamoaa", sum := "6e2bdc83e09a476ab7cd137383c90ce369edb78ea30c08939e10b5d02982f4d4", func := "loop.example/vectorraster/laws.FnRunsOfBlank", spec := "fnRunsOfBlank", unfollowed := true, recurses := true, plainKeys := false, apart := false, narrowed := true }
def FnRunsOfBlankUptoSaid : Prop := fnRunsOfBlankUptoRow.holds Try.pinned (OpenSpec.upto fnRunsOfBlankSpec)

/-- 'laws.FnExactRunsOf', WHERE WHAT IT READS IS OF BULK AT MOST 1048576: true; the input reads as it did. -/
def fnExactRunsOfUptoRow : OpenClaim := { program := "ytofelomoieamoaa", sum := "6e2bdc83e09a476ab7cd137383c90ce369edb78ea30c08939e10b5d02982f4d4", func := "loop.example/vectorraster/laws.FnExactRunsOf", spec := "fnExactRunsOf", unfollowed := true, recurses := true, plainKeys := false, apart := false, narrowed := true }
def FnExactRunsOfUptoSaid : Prop := fnExactRunsOfUptoRow.holds Try.pinned (OpenSpec.upto fnExactRunsOfSpec)

/-- 'laws.FnRunsOf', WHERE WHAT IT READS IS OF BULK AT MOST 1048576: true; the input reads as it did. -/
def fnRunsOfUptoRow : OpenClaim := { program := "ytofelomoieamoaa", sum := "6e2bdc83e09a476ab7cd137383c90ce369edb78ea30c08939e10b5d02982f4d4", func := "loop.example/vectorraster/laws.FnRunsOf", spec := "fnRunsOf", unfollowed := true, recurses := true, plainKeys := false, apart := false, narrowed := true }
def FnRunsOfUptoSaid : Prop := fnRunsOfUptoRow.holds Try.pinned (OpenSpec.upto fnRunsOfSpec)

/-- 'laws.FnFrameFrom', WHERE WHAT IT READS IS OF BULK AT MOST 1048576: true; the input reads as it did. -/
def fnFrameFromUptoRow : OpenClaim := { program := "ytofelomoieamoaa", sum := "6e2bdc83e09a476ab7cd137383c90ce369edb78ea30c08939e10b5d02982f4d4", func := "loop.example/vectorraster/laws.FnFrameFrom", spec := "fnFrameFrom", unfollowed := true, recurses := true, plainKeys := false, apart := false, narrowed := true }
def FnFrameFromUptoSaid : Prop := fnFrameFromUptoRow.holds Try.pinned (OpenSpec.upto fnFrameFromSpec)

/-- 'laws.FnExactFrameFrom', WHERE WHAT IT READS IS OF BULK AT MOST 1048576: true; the input reads as it did. -/
def fnExactFrameFromUptoRow : OpenClaim := { program := "ytofelomoieamoaa", sum := "6e2bdc83e09a476ab7cd137383c90ce369edb78ea30c08939e10b5d02982f4d4", func := "loop.example/vectorraster/laws.FnExactFrameFrom", spec := "fnExactFrameFrom", unfollowed := true, recurses := true, plainKeys := false, apart := false, narrowed := true }
def FnExactFrameFromUptoSaid : Prop := fnExactFrameFromUptoRow.holds Try.pinned (OpenSpec.upto fnExactFrameFromSpec)

end Rows
end Go.Proofs.Ytofelomoieamoaa
