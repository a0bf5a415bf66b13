/- Contracts of functions of the program vectorraster, each proved for all states that fit its description. No conditions. -/
import Derived.Test.YtcejoknapbhloaaGreatKT
set_option maxRecDepth 100000
set_option linter.unusedSimpArgs false
set_option linter.unusedVariables false
namespace Go.Proofs.YtcejoknapbhloaaGreat
open Go Go.VE
def d_bx_bx : List AV → Option (Bx × Bx)
  | [.agg a0, .agg a1] => match bxCd a0, bxCd a1 with
    | some a0v, some a1v => some (a0v, a1v)
    | _, _ => none
  | _ => none
def d_bx_i_i : List AV → Option (Bx × Int × Int)
  | [.agg a0, .c (.v (.int .i64 a1)), .c (.v (.int .i64 a2))] => match bxCd a0 with
    | some a0v => some (a0v, a1, a2)
    | _ => none
  | _ => none
def d_sc_i_fl : List AV → Option (Scn × Int × Fil)
  | [.agg a0, .c (.v (.int .i64 a1)), .agg a2] => match scCd a0, flCd a2 with
    | some a0v, some a2v => some (a0v, a1, a2v)
    | _, _ => none
  | _ => none
attribute [go_sem] d_bx_bx d_bx_i_i d_sc_i_fl
end Go.Proofs.YtcejoknapbhloaaGreat
