/- Contracts of functions of the program vectorraster, each proved for all states that fit its description. No conditions. -/
import Derived.Test.YthphndhiacikaaaDoorT2KV
set_option maxRecDepth 100000
set_option linter.unusedSimpArgs false
set_option linter.unusedVariables false
namespace Go.Proofs.YthphndhiacikaaaDoor
open Go Go.VE
def d_vb : List AV → Option (Verb)
  | [.agg a0] => match vbCd a0 with
    | some a0v => some (a0v)
    | _ => none
  | _ => none
def d_lpt_i : List AV → Option ((List Pt) × Int)
  | [.c (.sl _ a0), .c (.v (.int .i64 a1))] => match decAll ptCd a0 with
    | some a0v => some (a0v, a1)
    | _ => none
  | _ => none
def d_vb_i : List AV → Option (Verb × Int)
  | [.agg a0, .c (.v (.int .i64 a1))] => match vbCd a0 with
    | some a0v => some (a0v, a1)
    | _ => none
  | _ => none
def d_lvb_i : List AV → Option ((List Verb) × Int)
  | [.c (.sl _ a0), .c (.v (.int .i64 a1))] => match decAll vbCd a0 with
    | some a0v => some (a0v, a1)
    | _ => none
  | _ => none
def d_lpt_lpt : List AV → Option ((List Pt) × (List Pt))
  | [.c (.sl _ a0), .c (.sl _ a1)] => match decAll ptCd a0, decAll ptCd a1 with
    | some a0v, some a1v => some (a0v, a1v)
    | _, _ => none
  | _ => none
def d_vb_vb : List AV → Option (Verb × Verb)
  | [.agg a0, .agg a1] => match vbCd a0, vbCd a1 with
    | some a0v, some a1v => some (a0v, a1v)
    | _, _ => none
  | _ => none
def d_lvb_lvb : List AV → Option ((List Verb) × (List Verb))
  | [.c (.sl _ a0), .c (.sl _ a1)] => match decAll vbCd a0, decAll vbCd a1 with
    | some a0v, some a1v => some (a0v, a1v)
    | _, _ => none
  | _ => none
attribute [go_sem] d_vb d_lpt_i d_vb_i d_lvb_i d_lpt_lpt d_vb_vb d_lvb_lvb
end Go.Proofs.YthphndhiacikaaaDoor
