/- Contracts of functions of the program vectorraster, each proved for all states that fit its description. No conditions. -/
import Derived.Test.YthphndhiacikaaaDoorKK
set_option maxRecDepth 100000
set_option linter.unusedSimpArgs false
set_option linter.unusedVariables false
namespace Go.Proofs.YthphndhiacikaaaDoor
open Go Go.VE
def d_ls_s : List AV → Option ((List ByteArray) × ByteArray)
  | [.c (.sl _ a0), .c (.v (.string a1))] => match decAll sCd a0 with
    | some a0v => some (a0v, a1)
    | _ => none
  | _ => none
def d_s_s : List AV → Option (ByteArray × ByteArray)
  | [.c (.v (.string a0)), .c (.v (.string a1))] => some (a0, a1)
  | _ => none
def d_s : List AV → Option (ByteArray)
  | [.c (.v (.string a0))] => some (a0)
  | _ => none
attribute [go_sem] d_ls_s d_s_s d_s
end Go.Proofs.YthphndhiacikaaaDoor
