/- Contracts of functions of the program vectorraster, each proved for all states that fit its description. No conditions. -/
import Derived.Test.YthphndhiacikaaaGreatDoorPE
import Derived.Test.YthphndhiacikaaaGreatDoorPD
import Derived.Test.YthphndhiacikaaaGreatDoorPA
import Derived.Test.YthphndhiacikaaaGreatDoorKK
import Derived.Test.YthphndhiacikaaaGreatDoorPG
set_option linter.unusedSimpArgs false
set_option linter.unusedVariables false
set_option maxRecDepth 100000
namespace Go.Proofs.YthphndhiacikaaaGreatDoor
open Go Go.VE
def spLaw_A : (List UInt8) → List AV
  | code => [.c (.sl false (byC code))]
def spLaw_pre : (List UInt8) → Prop
  | code => True
def spLaw_post : (List UInt8) → AV → List Box → Prop
  | code, r, bs => r = B (true) ∧ bs = []
def spLaw : VE.Spec := famSpec spLaw_A d_ly spLaw_pre spLaw_post 100000 false
theorem spLaw_q : SpQ spLaw false [] false 100000 (fun a i => i = [] ∧ famPre d_ly spLaw_A spLaw_pre a) (fun a i r b => famPost d_ly spLaw_post a r b) := ⟨rfl, rfl, rfl, rfl, fun _ _ => rfl, fun _ _ _ _ => rfl⟩
end Go.Proofs.YthphndhiacikaaaGreatDoor
