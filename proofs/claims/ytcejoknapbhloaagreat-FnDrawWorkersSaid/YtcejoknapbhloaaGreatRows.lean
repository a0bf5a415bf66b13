/-
  No cell of these rows narrows 'for every input' (looked for: loops, veiled, ifaces, maps, wideKeys, modest, calm, conditions, laid).
  DERIVED. THE GIVEN ROWS OF THIS SEAT. 3 by the template 'for every input the law returns true; each argument reads behind the call as it read before'; 0 by the template 'total and deterministic' (their statements: YtcejoknapbhloaaGreatTotals.lean).
  GIVEN WITH THE SEED: the statements are not yours to turn. If you find one false, say at which input.
  Laid BY PROGRAM, IN A SANDBOX (cutbox-rows.mjs): the forced cells as the released guide's own fill.sh prints them over the translation ae68435f51c8c441… (all of the seat's roots in one cut). By AI agents, Wed Nov 11 2026. No macro, syntax, notation, axiom, sorry.
-/
import Derived.Test.YtcejoknapbhloaaGreatChecked
import GoSem.Claim
import GoSem.ClaimJoined
import GoSem.ClaimMapViews
import Derived.JoinedTies
import Derived.KernelRfl
namespace Go.Proofs.YtcejoknapbhloaaGreat
/- THE CELL 'sum', in the pinned program and in every row, IS THE sha256 OF THE DUMP (.gsa) THAT YtcejoknapbhloaaGreatProg.lean LOADS. Nothing in Lean hashes anything: it is a label: what it is worth is what the hold of that sum in a sandbox is worth. -/
noncomputable def Tryz.pinned : Pinned := { name := "ytcejoknapbhloaagreat", sum := "ae68435f51c8c441a2d2ea40b4339dc95cfd82812eee88ef0a17ae1cba0614f6", checked := Tryz.checked }
namespace Rows
def none {H : Type} : Left H := { results := [], args := [] }

/-- 'laws.FnDrawWorkers': WHATEVER THE INPUT: true; the input reads as it did. -/
def fnDrawWorkersSpec : ChangeSpec := { name := "fnDrawWorkers", fn := fun _ => fun
  | [d] => { results := [.lit (.bool true)], args := [d] }
  | _ => none }
def fnDrawWorkersRow : OpenClaim := { program := "ytcejoknapbhloaagreat", sum := "ae68435f51c8c441a2d2ea40b4339dc95cfd82812eee88ef0a17ae1cba0614f6", func := "loop.example/vectorraster/laws.FnDrawWorkers", spec := "fnDrawWorkers", unfollowed := true, recurses := true, apart := false }
def FnDrawWorkersSaid : Prop := fnDrawWorkersRow.holds Tryz.pinned (OpenSpec.ofChange fnDrawWorkersSpec)

/-- ITS FALSE NEIGHBOUR: 'it returns false'. Refute it at one input. -/
def fnDrawWorkersWrong : ChangeSpec := { name := "fnDrawWorkers", fn := fun _ => fun
  | [d] => { results := [.lit (.bool false)], args := [d] }
  | _ => none }
def FnDrawWorkersWrongFalsely : Prop := fnDrawWorkersRow.holds Tryz.pinned (OpenSpec.ofChange fnDrawWorkersWrong)

/-- 'laws.FnRedrawFill': WHATEVER THE INPUT: true; the input reads as it did. -/
def fnRedrawFillSpec : ChangeSpec := { name := "fnRedrawFill", fn := fun _ => fun
  | [d] => { results := [.lit (.bool true)], args := [d] }
  | _ => none }
def fnRedrawFillRow : OpenClaim := { program := "ytcejoknapbhloaagreat", sum := "ae68435f51c8c441a2d2ea40b4339dc95cfd82812eee88ef0a17ae1cba0614f6", func := "loop.example/vectorraster/laws.FnRedrawFill", spec := "fnRedrawFill", unfollowed := true, recurses := true, apart := false }
def FnRedrawFillSaid : Prop := fnRedrawFillRow.holds Tryz.pinned (OpenSpec.ofChange fnRedrawFillSpec)

/-- ITS FALSE NEIGHBOUR: 'it returns false'. Refute it at one input. -/
def fnRedrawFillWrong : ChangeSpec := { name := "fnRedrawFill", fn := fun _ => fun
  | [d] => { results := [.lit (.bool false)], args := [d] }
  | _ => none }
def FnRedrawFillWrongFalsely : Prop := fnRedrawFillRow.holds Tryz.pinned (OpenSpec.ofChange fnRedrawFillWrong)

/-- 'laws.FnRedrawFillSame': WHATEVER THE INPUT: true; the input reads as it did. -/
def fnRedrawFillSameSpec : ChangeSpec := { name := "fnRedrawFillSame", fn := fun _ => fun
  | [d] => { results := [.lit (.bool true)], args := [d] }
  | _ => none }
def fnRedrawFillSameRow : OpenClaim := { program := "ytcejoknapbhloaagreat", sum := "ae68435f51c8c441a2d2ea40b4339dc95cfd82812eee88ef0a17ae1cba0614f6", func := "loop.example/vectorraster/laws.FnRedrawFillSame", spec := "fnRedrawFillSame", unfollowed := true, recurses := true, apart := false }
def FnRedrawFillSameSaid : Prop := fnRedrawFillSameRow.holds Tryz.pinned (OpenSpec.ofChange fnRedrawFillSameSpec)

/-- ITS FALSE NEIGHBOUR: 'it returns false'. Refute it at one input. -/
def fnRedrawFillSameWrong : ChangeSpec := { name := "fnRedrawFillSame", fn := fun _ => fun
  | [d] => { results := [.lit (.bool false)], args := [d] }
  | _ => none }
def FnRedrawFillSameWrongFalsely : Prop := fnRedrawFillSameRow.holds Tryz.pinned (OpenSpec.ofChange fnRedrawFillSameWrong)

/- THE SECOND FORM. 'bulk': how many values and letters a reading holds, each counted each time it is reached (what is shared counts as often as it is met; a slice's spare places count too). A statement '..UptoSaid' is the law's where the arguments, and the package variables that the reading takes, are together of bulk at most 1048576: NARROWER than '..Said'. Prove '..Said' where nothing that the law and all that it calls make is longer than what came in: it says more and counts as full. Else prove '..UptoSaid'. A law counts once. -/
mutual
def uptoBulk {H : Type} : DataW H → Nat
  | .lit (.string bytes) => bytes.length + 1
  | .lit _ => 1
  | .nil => 1
  | .ptr d => uptoBulk d + 1
  | .slice elems spare => uptoBulkAll elems + uptoBulkAll spare + 1
  | .agg parts => uptoBulkAll parts + 1
  | .iface _ d => uptoBulk d + 1
  | .map entries => uptoBulkEntries entries + 1
  | .held _ => 1
def uptoBulkAll {H : Type} : List (DataW H) → Nat
  | [] => 0
  | d :: r => uptoBulk d + uptoBulkAll r
def uptoBulkEntries {H : Type} : List (Lit × DataW H) → Nat
  | [] => 0
  | x :: r => uptoBulkEntry x + uptoBulkEntries r
def uptoBulkEntry {H : Type} : Lit × DataW H → Nat
  | (.string bytes, d) => bytes.length + uptoBulk d + 1
  | (_, d) => uptoBulk d + 1
 end
def uptoSmall : (H : Type) → List (DataW H) → Bool := fun _ ds => decide (uptoBulkAll ds ≤ 1048576)
def OpenSpec.upto (s : _root_.Go.ChangeSpec) : _root_.Go.OpenSpec := { _root_.Go.OpenSpec.ofChange s with cond := some uptoSmall }

/-- 'laws.FnDrawWorkers', WHERE WHAT IT READS IS OF BULK AT MOST 1048576: true; the input reads as it did. -/
def fnDrawWorkersUptoRow : OpenClaim := { program := "ytcejoknapbhloaagreat", sum := "ae68435f51c8c441a2d2ea40b4339dc95cfd82812eee88ef0a17ae1cba0614f6", func := "loop.example/vectorraster/laws.FnDrawWorkers", spec := "fnDrawWorkers", unfollowed := true, recurses := true, apart := false, narrowed := true }
def FnDrawWorkersUptoSaid : Prop := fnDrawWorkersUptoRow.holds Tryz.pinned (OpenSpec.upto fnDrawWorkersSpec)

/-- 'laws.FnRedrawFill', WHERE WHAT IT READS IS OF BULK AT MOST 1048576: true; the input reads as it did. -/
def fnRedrawFillUptoRow : OpenClaim := { program := "ytcejoknapbhloaagreat", sum := "ae68435f51c8c441a2d2ea40b4339dc95cfd82812eee88ef0a17ae1cba0614f6", func := "loop.example/vectorraster/laws.FnRedrawFill", spec := "fnRedrawFill", unfollowed := true, recurses := true, apart := false, narrowed := true }
def FnRedrawFillUptoSaid : Prop := fnRedrawFillUptoRow.holds Tryz.pinned (OpenSpec.upto fnRedrawFillSpec)

/-- 'laws.FnRedrawFillSame', WHERE WHAT IT READS IS OF BULK AT MOST 1048576: true; the input reads as it did. -/
def fnRedrawFillSameUptoRow : OpenClaim := { program := "ytcejoknapbhloaagreat", sum := "ae68435f51c8c441a2d2ea40b4339dc95cfd82812eee88ef0a17ae1cba0614f6", func := "loop.example/vectorraster/laws.FnRedrawFillSame", spec := "fnRedrawFillSame", unfollowed := true, recurses := true, apart := false, narrowed := true }
def FnRedrawFillSameUptoSaid : Prop := fnRedrawFillSameUptoRow.holds Tryz.pinned (OpenSpec.upto fnRedrawFillSameSpec)

end Rows
end Go.Proofs.YtcejoknapbhloaaGreat
