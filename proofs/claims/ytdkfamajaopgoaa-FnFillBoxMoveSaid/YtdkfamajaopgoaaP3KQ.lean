/- Contracts of functions of the program vectorraster, each proved for all states that fit its description. No conditions. -/
import Derived.Test.YtdkfamajaopgoaaKS
set_option maxRecDepth 100000
set_option linter.unusedSimpArgs false
set_option linter.unusedVariables false
namespace Go.Proofs.Ytdkfamajaopgoaa
open Go Go.VE
def d_bx_bx : List AV → Option (Bx × Bx)
  | [.agg a0, .agg a1] => match bxCd a0, bxCd a1 with
    | some a0v, some a1v => some (a0v, a1v)
    | _, _ => none
  | _ => none
def d_lvb_i_i : List AV → Option ((List Verb) × Int × Int)
  | [.c (.sl _ a0), .c (.v (.int .i64 a1)), .c (.v (.int .i64 a2))] => match decAll vbCd a0 with
    | some a0v => some (a0v, a1, a2)
    | _ => none
  | _ => none
attribute [go_sem] d_bx_bx d_lvb_i_i
end Go.Proofs.Ytdkfamajaopgoaa
