/- Contracts of functions of the program vectorraster, each proved for all states that fit its description. No conditions. -/
import Derived.Test.YthphndhiacikaaaGreatDoorT3KX
set_option maxRecDepth 100000
set_option linter.unusedSimpArgs false
set_option linter.unusedVariables false
namespace Go.Proofs.YthphndhiacikaaaGreatDoor
open Go Go.VE
def d_lvb_lvb : List AV → Option ((List Verb) × (List Verb))
  | [.c (.sl _ a0), .c (.sl _ a1)] => match decAll vbCd a0, decAll vbCd a1 with
    | some a0v, some a1v => some (a0v, a1v)
    | _, _ => none
  | _ => none
def d_r_ls : List AV → Option ((List ByteArray))
  | [.c .rdr, .c (.sl _ a1)] => match decAll sCd a1 with
    | some a1v => some (a1v)
    | _ => none
  | _ => none
def d_r_s : List AV → Option (ByteArray)
  | [.c .rdr, .c (.v (.string a1))] => some (a1)
  | _ => none
attribute [go_sem] d_lvb_lvb d_r_ls d_r_s
end Go.Proofs.YthphndhiacikaaaGreatDoor
