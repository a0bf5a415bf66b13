/- Contracts of functions of the program vectorraster, each proved for all states that fit its description. No conditions. -/
import Derived.Test.YtcejoknapbhloaaGreatKS
set_option linter.unusedSimpArgs false
set_option linter.unusedVariables false
set_option maxRecDepth 100000
namespace Go.Proofs.YtcejoknapbhloaaGreat
open Go Go.VE
def d_lco_lco : List AV → Option ((List Colr) × (List Colr))
  | [.c (.sl _ a0), .c (.sl _ a1)] => match decAll coCd a0, decAll coCd a1 with
    | some a0v, some a1v => some (a0v, a1v)
    | _, _ => none
  | _ => none
attribute [go_sem] d_lco_lco
def d_fr_sc_i : List AV → Option (Frm × Scn × Int)
  | [.agg a0, .agg a1, .c (.v (.int .i64 a2))] => match frCd a0, scCd a1 with
    | some a0v, some a1v => some (a0v, a1v, a2)
    | _, _ => none
  | _ => none
attribute [go_sem] d_fr_sc_i
def d_fr : List AV → Option (Frm)
  | [.agg a0] => match frCd a0 with
    | some a0v => some (a0v)
    | _ => none
  | _ => none
def d_fr_fr : List AV → Option (Frm × Frm)
  | [.agg a0, .agg a1] => match frCd a0, frCd a1 with
    | some a0v, some a1v => some (a0v, a1v)
    | _, _ => none
  | _ => none
attribute [go_sem] d_fr d_fr_fr
def d_li : List AV → Option ((List Int))
  | [.c (.sl _ a0)] => match decAll intCd a0 with
    | some a0v => some (a0v)
    | _ => none
  | _ => none
attribute [go_sem] d_li
end Go.Proofs.YtcejoknapbhloaaGreat
