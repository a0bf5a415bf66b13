/- Contracts of functions of the program vectorraster, each proved for all states that fit its description. No conditions. -/
import Derived.Test.YtkhplopcjkkejaaGreatKS
set_option maxRecDepth 100000
set_option linter.unusedSimpArgs false
set_option linter.unusedVariables false
namespace Go.Proofs.YtkhplopcjkkejaaGreat
open Go Go.VE
def d_lco_lco : List AV → Option ((List Colr) × (List Colr))
  | [.c (.sl _ a0), .c (.sl _ a1)] => match decAll coCd a0, decAll coCd a1 with
    | some a0v, some a1v => some (a0v, a1v)
    | _, _ => none
  | _ => none
attribute [go_sem] d_lco_lco
end Go.Proofs.YtkhplopcjkkejaaGreat
