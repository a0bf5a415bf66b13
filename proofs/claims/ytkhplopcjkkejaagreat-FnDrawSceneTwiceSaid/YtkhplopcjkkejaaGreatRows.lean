/-
  No cell of these rows narrows 'for every input' (looked for: loops, veiled, ifaces, maps, wideKeys, modest, calm, conditions, laid).
  DERIVED. THE GIVEN ROWS OF THIS SEAT. 11 by the template 'for every input the law returns true; each argument reads behind the call as it read before'; 0 by the template 'total and deterministic' (their statements: YtkhplopcjkkejaaGreatTotals.lean).
  GIVEN WITH THE SEED: the statements are not yours to turn. If you find one false, say at which input.
  Laid BY PROGRAM, IN A SANDBOX (cutbox-rows.mjs): the forced cells as the released guide's own fill.sh prints them over the translation dc691526d2a630e9… (all of the seat's roots in one cut). By AI agents, Wed Nov 11 2026. No macro, syntax, notation, axiom, sorry.
-/
import Derived.Test.YtkhplopcjkkejaaGreatChecked
import GoSem.Claim
import GoSem.ClaimJoined
import GoSem.ClaimMapViews
import Derived.JoinedTies
import Derived.KernelRfl
namespace Go.Proofs.YtkhplopcjkkejaaGreat
/- THE CELL 'sum', in the pinned program and in every row, IS THE sha256 OF THE DUMP (.gsa) THAT YtkhplopcjkkejaaGreatProg.lean LOADS. Nothing in Lean hashes anything: it is a label: what it is worth is what the hold of that sum in a sandbox is worth. -/
noncomputable def Tryz.pinned : Pinned := { name := "ytkhplopcjkkejaagreat", sum := "dc691526d2a630e9b5e68c67988120e750385b4435c2a47332693259782ce48d", checked := Tryz.checked }
namespace Rows
def none {H : Type} : Left H := { results := [], args := [] }

/-- 'laws.FnPixelOfEmpty': WHATEVER THE INPUT: true; the input reads as it did. -/
def fnPixelOfEmptySpec : ChangeSpec := { name := "fnPixelOfEmpty", fn := fun _ => fun
  | [d] => { results := [.lit (.bool true)], args := [d] }
  | _ => none }
def fnPixelOfEmptyRow : OpenClaim := { program := "ytkhplopcjkkejaagreat", sum := "dc691526d2a630e9b5e68c67988120e750385b4435c2a47332693259782ce48d", func := "loop.example/vectorraster/laws.FnPixelOfEmpty", spec := "fnPixelOfEmpty", unfollowed := true, recurses := true, apart := false }
def FnPixelOfEmptySaid : Prop := fnPixelOfEmptyRow.holds Tryz.pinned (OpenSpec.ofChange fnPixelOfEmptySpec)

/-- ITS FALSE NEIGHBOUR: 'it returns false'. Refute it at one input. -/
def fnPixelOfEmptyWrong : ChangeSpec := { name := "fnPixelOfEmpty", fn := fun _ => fun
  | [d] => { results := [.lit (.bool false)], args := [d] }
  | _ => none }
def FnPixelOfEmptyWrongFalsely : Prop := fnPixelOfEmptyRow.holds Tryz.pinned (OpenSpec.ofChange fnPixelOfEmptyWrong)

/-- 'laws.FnPixelOf': WHATEVER THE INPUT: true; the input reads as it did. -/
def fnPixelOfSpec : ChangeSpec := { name := "fnPixelOf", fn := fun _ => fun
  | [d] => { results := [.lit (.bool true)], args := [d] }
  | _ => none }
def fnPixelOfRow : OpenClaim := { program := "ytkhplopcjkkejaagreat", sum := "dc691526d2a630e9b5e68c67988120e750385b4435c2a47332693259782ce48d", func := "loop.example/vectorraster/laws.FnPixelOf", spec := "fnPixelOf", unfollowed := true, recurses := true, apart := false }
def FnPixelOfSaid : Prop := fnPixelOfRow.holds Tryz.pinned (OpenSpec.ofChange fnPixelOfSpec)

/-- ITS FALSE NEIGHBOUR: 'it returns false'. Refute it at one input. -/
def fnPixelOfWrong : ChangeSpec := { name := "fnPixelOf", fn := fun _ => fun
  | [d] => { results := [.lit (.bool false)], args := [d] }
  | _ => none }
def FnPixelOfWrongFalsely : Prop := fnPixelOfRow.holds Tryz.pinned (OpenSpec.ofChange fnPixelOfWrong)

/-- 'laws.FnDrawSceneLower': WHATEVER THE INPUT: true; the input reads as it did. -/
def fnDrawSceneLowerSpec : ChangeSpec := { name := "fnDrawSceneLower", fn := fun _ => fun
  | [d] => { results := [.lit (.bool true)], args := [d] }
  | _ => none }
def fnDrawSceneLowerRow : OpenClaim := { program := "ytkhplopcjkkejaagreat", sum := "dc691526d2a630e9b5e68c67988120e750385b4435c2a47332693259782ce48d", func := "loop.example/vectorraster/laws.FnDrawSceneLower", spec := "fnDrawSceneLower", unfollowed := true, recurses := true, apart := false }
def FnDrawSceneLowerSaid : Prop := fnDrawSceneLowerRow.holds Tryz.pinned (OpenSpec.ofChange fnDrawSceneLowerSpec)

/-- ITS FALSE NEIGHBOUR: 'it returns false'. Refute it at one input. -/
def fnDrawSceneLowerWrong : ChangeSpec := { name := "fnDrawSceneLower", fn := fun _ => fun
  | [d] => { results := [.lit (.bool false)], args := [d] }
  | _ => none }
def FnDrawSceneLowerWrongFalsely : Prop := fnDrawSceneLowerRow.holds Tryz.pinned (OpenSpec.ofChange fnDrawSceneLowerWrong)

/-- 'laws.FnDrawScene': WHATEVER THE INPUT: true; the input reads as it did. -/
def fnDrawSceneSpec : ChangeSpec := { name := "fnDrawScene", fn := fun _ => fun
  | [d] => { results := [.lit (.bool true)], args := [d] }
  | _ => none }
def fnDrawSceneRow : OpenClaim := { program := "ytkhplopcjkkejaagreat", sum := "dc691526d2a630e9b5e68c67988120e750385b4435c2a47332693259782ce48d", func := "loop.example/vectorraster/laws.FnDrawScene", spec := "fnDrawScene", unfollowed := true, recurses := true, apart := false }
def FnDrawSceneSaid : Prop := fnDrawSceneRow.holds Tryz.pinned (OpenSpec.ofChange fnDrawSceneSpec)

/-- ITS FALSE NEIGHBOUR: 'it returns false'. Refute it at one input. -/
def fnDrawSceneWrong : ChangeSpec := { name := "fnDrawScene", fn := fun _ => fun
  | [d] => { results := [.lit (.bool false)], args := [d] }
  | _ => none }
def FnDrawSceneWrongFalsely : Prop := fnDrawSceneRow.holds Tryz.pinned (OpenSpec.ofChange fnDrawSceneWrong)

/-- 'laws.FnDrawSceneTwice': WHATEVER THE INPUT: true; the input reads as it did. -/
def fnDrawSceneTwiceSpec : ChangeSpec := { name := "fnDrawSceneTwice", fn := fun _ => fun
  | [d] => { results := [.lit (.bool true)], args := [d] }
  | _ => none }
def fnDrawSceneTwiceRow : OpenClaim := { program := "ytkhplopcjkkejaagreat", sum := "dc691526d2a630e9b5e68c67988120e750385b4435c2a47332693259782ce48d", func := "loop.example/vectorraster/laws.FnDrawSceneTwice", spec := "fnDrawSceneTwice", unfollowed := true, recurses := true, apart := false }
def FnDrawSceneTwiceSaid : Prop := fnDrawSceneTwiceRow.holds Tryz.pinned (OpenSpec.ofChange fnDrawSceneTwiceSpec)

/-- ITS FALSE NEIGHBOUR: 'it returns false'. Refute it at one input. -/
def fnDrawSceneTwiceWrong : ChangeSpec := { name := "fnDrawSceneTwice", fn := fun _ => fun
  | [d] => { results := [.lit (.bool false)], args := [d] }
  | _ => none }
def FnDrawSceneTwiceWrongFalsely : Prop := fnDrawSceneTwiceRow.holds Tryz.pinned (OpenSpec.ofChange fnDrawSceneTwiceWrong)

/-- 'laws.FnDamageOf': WHATEVER THE INPUT: true; the input reads as it did. -/
def fnDamageOfSpec : ChangeSpec := { name := "fnDamageOf", fn := fun _ => fun
  | [d] => { results := [.lit (.bool true)], args := [d] }
  | _ => none }
def fnDamageOfRow : OpenClaim := { program := "ytkhplopcjkkejaagreat", sum := "dc691526d2a630e9b5e68c67988120e750385b4435c2a47332693259782ce48d", func := "loop.example/vectorraster/laws.FnDamageOf", spec := "fnDamageOf", unfollowed := true, recurses := true, apart := false }
def FnDamageOfSaid : Prop := fnDamageOfRow.holds Tryz.pinned (OpenSpec.ofChange fnDamageOfSpec)

/-- ITS FALSE NEIGHBOUR: 'it returns false'. Refute it at one input. -/
def fnDamageOfWrong : ChangeSpec := { name := "fnDamageOf", fn := fun _ => fun
  | [d] => { results := [.lit (.bool false)], args := [d] }
  | _ => none }
def FnDamageOfWrongFalsely : Prop := fnDamageOfRow.holds Tryz.pinned (OpenSpec.ofChange fnDamageOfWrong)

/-- 'laws.FnDrawTileTwice': WHATEVER THE INPUT: true; the input reads as it did. -/
def fnDrawTileTwiceSpec : ChangeSpec := { name := "fnDrawTileTwice", fn := fun _ => fun
  | [d] => { results := [.lit (.bool true)], args := [d] }
  | _ => none }
def fnDrawTileTwiceRow : OpenClaim := { program := "ytkhplopcjkkejaagreat", sum := "dc691526d2a630e9b5e68c67988120e750385b4435c2a47332693259782ce48d", func := "loop.example/vectorraster/laws.FnDrawTileTwice", spec := "fnDrawTileTwice", unfollowed := true, recurses := true, apart := false }
def FnDrawTileTwiceSaid : Prop := fnDrawTileTwiceRow.holds Tryz.pinned (OpenSpec.ofChange fnDrawTileTwiceSpec)

/-- ITS FALSE NEIGHBOUR: 'it returns false'. Refute it at one input. -/
def fnDrawTileTwiceWrong : ChangeSpec := { name := "fnDrawTileTwice", fn := fun _ => fun
  | [d] => { results := [.lit (.bool false)], args := [d] }
  | _ => none }
def FnDrawTileTwiceWrongFalsely : Prop := fnDrawTileTwiceRow.holds Tryz.pinned (OpenSpec.ofChange fnDrawTileTwiceWrong)

/-- 'laws.FnDrawTile': WHATEVER THE INPUT: true; the input reads as it did. -/
def fnDrawTileSpec : ChangeSpec := { name := "fnDrawTile", fn := fun _ => fun
  | [d] => { results := [.lit (.bool true)], args := [d] }
  | _ => none }
def fnDrawTileRow : OpenClaim := { program := "ytkhplopcjkkejaagreat", sum := "dc691526d2a630e9b5e68c67988120e750385b4435c2a47332693259782ce48d", func := "loop.example/vectorraster/laws.FnDrawTile", spec := "fnDrawTile", unfollowed := true, recurses := true, apart := false }
def FnDrawTileSaid : Prop := fnDrawTileRow.holds Tryz.pinned (OpenSpec.ofChange fnDrawTileSpec)

/-- ITS FALSE NEIGHBOUR: 'it returns false'. Refute it at one input. -/
def fnDrawTileWrong : ChangeSpec := { name := "fnDrawTile", fn := fun _ => fun
  | [d] => { results := [.lit (.bool false)], args := [d] }
  | _ => none }
def FnDrawTileWrongFalsely : Prop := fnDrawTileRow.holds Tryz.pinned (OpenSpec.ofChange fnDrawTileWrong)

/-- 'laws.FnDrawTilesOrder': WHATEVER THE INPUT: true; the input reads as it did. -/
def fnDrawTilesOrderSpec : ChangeSpec := { name := "fnDrawTilesOrder", fn := fun _ => fun
  | [d] => { results := [.lit (.bool true)], args := [d] }
  | _ => none }
def fnDrawTilesOrderRow : OpenClaim := { program := "ytkhplopcjkkejaagreat", sum := "dc691526d2a630e9b5e68c67988120e750385b4435c2a47332693259782ce48d", func := "loop.example/vectorraster/laws.FnDrawTilesOrder", spec := "fnDrawTilesOrder", unfollowed := true, recurses := true, apart := false }
def FnDrawTilesOrderSaid : Prop := fnDrawTilesOrderRow.holds Tryz.pinned (OpenSpec.ofChange fnDrawTilesOrderSpec)

/-- ITS FALSE NEIGHBOUR: 'it returns false'. Refute it at one input. -/
def fnDrawTilesOrderWrong : ChangeSpec := { name := "fnDrawTilesOrder", fn := fun _ => fun
  | [d] => { results := [.lit (.bool false)], args := [d] }
  | _ => none }
def FnDrawTilesOrderWrongFalsely : Prop := fnDrawTilesOrderRow.holds Tryz.pinned (OpenSpec.ofChange fnDrawTilesOrderWrong)

/-- 'laws.FnDrawTilesTwice': WHATEVER THE INPUT: true; the input reads as it did. -/
def fnDrawTilesTwiceSpec : ChangeSpec := { name := "fnDrawTilesTwice", fn := fun _ => fun
  | [d] => { results := [.lit (.bool true)], args := [d] }
  | _ => none }
def fnDrawTilesTwiceRow : OpenClaim := { program := "ytkhplopcjkkejaagreat", sum := "dc691526d2a630e9b5e68c67988120e750385b4435c2a47332693259782ce48d", func := "loop.example/vectorraster/laws.FnDrawTilesTwice", spec := "fnDrawTilesTwice", unfollowed := true, recurses := true, apart := false }
def FnDrawTilesTwiceSaid : Prop := fnDrawTilesTwiceRow.holds Tryz.pinned (OpenSpec.ofChange fnDrawTilesTwiceSpec)

/-- ITS FALSE NEIGHBOUR: 'it returns false'. Refute it at one input. -/
def fnDrawTilesTwiceWrong : ChangeSpec := { name := "fnDrawTilesTwice", fn := fun _ => fun
  | [d] => { results := [.lit (.bool false)], args := [d] }
  | _ => none }
def FnDrawTilesTwiceWrongFalsely : Prop := fnDrawTilesTwiceRow.holds Tryz.pinned (OpenSpec.ofChange fnDrawTilesTwiceWrong)

/-- 'laws.FnDrawTiles': WHATEVER THE INPUT: true; the input reads as it did. -/
def fnDrawTilesSpec : ChangeSpec := { name := "fnDrawTiles", fn := fun _ => fun
  | [d] => { results := [.lit (.bool true)], args := [d] }
  | _ => none }
def fnDrawTilesRow : OpenClaim := { program := "ytkhplopcjkkejaagreat", sum := "dc691526d2a630e9b5e68c67988120e750385b4435c2a47332693259782ce48d", func := "loop.example/vectorraster/laws.FnDrawTiles", spec := "fnDrawTiles", unfollowed := true, recurses := true, apart := false }
def FnDrawTilesSaid : Prop := fnDrawTilesRow.holds Tryz.pinned (OpenSpec.ofChange fnDrawTilesSpec)

/-- ITS FALSE NEIGHBOUR: 'it returns false'. Refute it at one input. -/
def fnDrawTilesWrong : ChangeSpec := { name := "fnDrawTiles", fn := fun _ => fun
  | [d] => { results := [.lit (.bool false)], args := [d] }
  | _ => none }
def FnDrawTilesWrongFalsely : Prop := fnDrawTilesRow.holds Tryz.pinned (OpenSpec.ofChange fnDrawTilesWrong)

/- THE SECOND FORM. 'bulk': how many values and letters a reading holds, each counted each time it is reached (what is shared counts as often as it is met; a slice's spare places count too). A statement '..UptoSaid' is the law's where the arguments, and the package variables that the reading takes, are together of bulk at most 1048576: NARROWER than '..Said'. Prove '..Said' where nothing that the law and all that it calls make is longer than what came in: it says more and counts as full. Else prove '..UptoSaid'. A law counts once. -/
mutual
def uptoBulk {H : Type} : DataW H → Nat
  | .lit (.string bytes) => bytes.length + 1
  | .lit _ => 1
  | .nil => 1
  | .ptr d => uptoBulk d + 1
  | .slice elems spare => uptoBulkAll elems + uptoBulkAll spare + 1
  | .agg parts => uptoBulkAll parts + 1
  | .iface _ d => uptoBulk d + 1
  | .map entries => uptoBulkEntries entries + 1
  | .held _ => 1
def uptoBulkAll {H : Type} : List (DataW H) → Nat
  | [] => 0
  | d :: r => uptoBulk d + uptoBulkAll r
def uptoBulkEntries {H : Type} : List (Lit × DataW H) → Nat
  | [] => 0
  | x :: r => uptoBulkEntry x + uptoBulkEntries r
def uptoBulkEntry {H : Type} : Lit × DataW H → Nat
  | (.string bytes, d) => bytes.length + uptoBulk d + 1
  | (_, d) => uptoBulk d + 1
 end
def uptoSmall : (H : Type) → List (DataW H) → Bool := fun _ ds => decide (uptoBulkAll ds ≤ 1048576)
def OpenSpec.upto (s : _root_.Go.ChangeSpec) : _root_.Go.OpenSpec := { _root_.Go.OpenSpec.ofChange s with cond := some uptoSmall }

/-- 'laws.FnPixelOfEmpty', WHERE WHAT IT READS IS OF BULK AT MOST 1048576: true; the input reads as it did. -/
def fnPixelOfEmptyUptoRow : OpenClaim := { program := "ytkhplopcjkkejaagreat", sum := "dc691526d2a630e9b5e68c67988120e750385b4435c2a47332693259782ce48d", func := "loop.example/vectorraster/laws.FnPixelOfEmpty", spec := "fnPixelOfEmpty", unfollowed := true, recurses := true, apart := false, narrowed := true }
def FnPixelOfEmptyUptoSaid : Prop := fnPixelOfEmptyUptoRow.holds Tryz.pinned (OpenSpec.upto fnPixelOfEmptySpec)

/-- 'laws.FnPixelOf', WHERE WHAT IT READS IS OF BULK AT MOST 1048576: true; the input reads as it did. -/
def fnPixelOfUptoRow : OpenClaim := { program := "ytkhplopcjkkejaagreat", sum := "dc691526d2a630e9b5e68c67988120e750385b4435c2a47332693259782ce48d", func := "loop.example/vectorraster/laws.FnPixelOf", spec := "fnPixelOf", unfollowed := true, recurses := true, apart := false, narrowed := true }
def FnPixelOfUptoSaid : Prop := fnPixelOfUptoRow.holds Tryz.pinned (OpenSpec.upto fnPixelOfSpec)

/-- 'laws.FnDrawSceneLower', WHERE WHAT IT READS IS OF BULK AT MOST 1048576: true; the input reads as it did. -/
def fnDrawSceneLowerUptoRow : OpenClaim := { program := "ytkhplopcjkkejaagreat", sum := "dc691526d2a630e9b5e68c67988120e750385b4435c2a47332693259782ce48d", func := "loop.example/vectorraster/laws.FnDrawSceneLower", spec := "fnDrawSceneLower", unfollowed := true, recurses := true, apart := false, narrowed := true }
def FnDrawSceneLowerUptoSaid : Prop := fnDrawSceneLowerUptoRow.holds Tryz.pinned (OpenSpec.upto fnDrawSceneLowerSpec)

/-- 'laws.FnDrawScene', WHERE WHAT IT READS IS OF BULK AT MOST 1048576: true; the input reads as it did. -/
def fnDrawSceneUptoRow : OpenClaim := { program := "ytkhplopcjkkejaagreat", sum := "dc691526d2a630e9b5e68c67988120e750385b4435c2a47332693259782ce48d", func := "loop.example/vectorraster/laws.FnDrawScene", spec := "fnDrawScene", unfollowed := true, recurses := true, apart := false, narrowed := true }
def FnDrawSceneUptoSaid : Prop := fnDrawSceneUptoRow.holds Tryz.pinned (OpenSpec.upto fnDrawSceneSpec)

/-- 'laws.FnDrawSceneTwice', WHERE WHAT IT READS IS OF BULK AT MOST 1048576: true; the input reads as it did. -/
def fnDrawSceneTwiceUptoRow : OpenClaim := { program := "ytkhplopcjkkejaagreat", sum := "dc691526d2a630e9b5e68c67988120e750385b4435c2a47332693259782ce48d", func := "loop.example/vectorraster/laws.FnDrawSceneTwice", spec := "fnDrawSceneTwice", unfollowed := true, recurses := true, apart := false, narrowed := true }
def FnDrawSceneTwiceUptoSaid : Prop := fnDrawSceneTwiceUptoRow.holds Tryz.pinned (OpenSpec.upto fnDrawSceneTwiceSpec)

/-- 'laws.FnDamageOf', WHERE WHAT IT READS IS OF BULK AT MOST 1048576: true; the input reads as it did. -/
def fnDamageOfUptoRow : OpenClaim := { program := "ytkhplopcjkkejaagreat", sum := "dc691526d2a630e9b5e68c67988120e750385b4435c2a47332693259782ce48d", func := "loop.example/vectorraster/laws.FnDamageOf", spec := "fnDamageOf", unfollowed := true, recurses := true, apart := false, narrowed := true }
def FnDamageOfUptoSaid : Prop := fnDamageOfUptoRow.holds Tryz.pinned (OpenSpec.upto fnDamageOfSpec)

/-- 'laws.FnDrawTileTwice', WHERE WHAT IT READS IS OF BULK AT MOST 1048576: true; the input reads as it did. -/
def fnDrawTileTwiceUptoRow : OpenClaim := { program := "ytkhplopcjkkejaagreat", sum := "dc691526d2a630e9b5e68c67988120e750385b4435c2a47332693259782ce48d", func := "loop.example/vectorraster/laws.FnDrawTileTwice", spec := "fnDrawTileTwice", unfollowed := true, recurses := true, apart := false, narrowed := true }
def FnDrawTileTwiceUptoSaid : Prop := fnDrawTileTwiceUptoRow.holds Tryz.pinned (OpenSpec.upto fnDrawTileTwiceSpec)

/-- 'laws.FnDrawTile', WHERE WHAT IT READS IS OF BULK AT MOST 1048576: true; the input reads as it did. -/
def fnDrawTileUptoRow : OpenClaim := { program := "ytkhplopcjkkejaagreat", sum := "dc691526d2a630e9b5e68c67988120e750385b4435c2a47332693259782ce48d", func := "loop.example/vectorraster/laws.FnDrawTile", spec := "fnDrawTile", unfollowed := true, recurses := true, apart := false, narrowed := true }
def FnDrawTileUptoSaid : Prop := fnDrawTileUptoRow.holds Tryz.pinned (OpenSpec.upto fnDrawTileSpec)

/-- 'laws.FnDrawTilesOrder', WHERE WHAT IT READS IS OF BULK AT MOST 1048576: true; the input reads as it did. -/
def fnDrawTilesOrderUptoRow : OpenClaim := { program := "ytkhplopcjkkejaagreat", sum := "dc691526d2a630e9b5e68c67988120e750385b4435c2a47332693259782ce48d", func := "loop.example/vectorraster/laws.FnDrawTilesOrder", spec := "fnDrawTilesOrder", unfollowed := true, recurses := true, apart := false, narrowed := true }
def FnDrawTilesOrderUptoSaid : Prop := fnDrawTilesOrderUptoRow.holds Tryz.pinned (OpenSpec.upto fnDrawTilesOrderSpec)

/-- 'laws.FnDrawTilesTwice', WHERE WHAT IT READS IS OF BULK AT MOST 1048576: true; the input reads as it did. -/
def fnDrawTilesTwiceUptoRow : OpenClaim := { program := "ytkhplopcjkkejaagreat", sum := "dc691526d2a630e9b5e68c67988120e750385b4435c2a47332693259782ce48d", func := "loop.example/vectorraster/laws.FnDrawTilesTwice", spec := "fnDrawTilesTwice", unfollowed := true, recurses := true, apart := false, narrowed := true }
def FnDrawTilesTwiceUptoSaid : Prop := fnDrawTilesTwiceUptoRow.holds Tryz.pinned (OpenSpec.upto fnDrawTilesTwiceSpec)

/-- 'laws.FnDrawTiles', WHERE WHAT IT READS IS OF BULK AT MOST 1048576: true; the input reads as it did. -/
def fnDrawTilesUptoRow : OpenClaim := { program := "ytkhplopcjkkejaagreat", sum := "dc691526d2a630e9b5e68c67988120e750385b4435c2a47332693259782ce48d", func := "loop.example/vectorraster/laws.FnDrawTiles", spec := "fnDrawTiles", unfollowed := true, recurses := true, apart := false, narrowed := true }
def FnDrawTilesUptoSaid : Prop := fnDrawTilesUptoRow.holds Tryz.pinned (OpenSpec.upto fnDrawTilesSpec)

end Rows
end Go.Proofs.YtkhplopcjkkejaaGreat
