/- Contracts of functions of the program vectorraster, each proved for all states that fit its description. No conditions. -/
import Derived.Test.YtcejoknapbhloaaGreatP7KQ
set_option maxRecDepth 100000
set_option linter.unusedSimpArgs false
set_option linter.unusedVariables false
namespace Go.Proofs.YtcejoknapbhloaaGreat
open Go Go.VE
def d_lfl : List AV → Option ((List Fil))
  | [.c (.sl _ a0)] => match decAll flCd a0 with
    | some a0v => some (a0v)
    | _ => none
  | _ => none
attribute [go_sem] d_lfl
end Go.Proofs.YtcejoknapbhloaaGreat
