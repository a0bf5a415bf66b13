/- Contracts of functions of the program vectorraster, each proved for all states that fit its description. No conditions. -/
import Derived.Test.YthphndhiacikaaaDoorT2KW
set_option maxRecDepth 100000
set_option linter.unusedSimpArgs false
set_option linter.unusedVariables false
namespace Go.Proofs.YthphndhiacikaaaDoor
open Go Go.VE
def d_s_w : List AV → Option (ByteArray × Int)
  | [.c (.v (.string a0)), .c (.v (.int .u8 a1))] => some (a0, a1)
  | _ => none
def d_ls : List AV → Option ((List ByteArray))
  | [.c (.sl _ a0)] => match decAll sCd a0 with
    | some a0v => some (a0v)
    | _ => none
  | _ => none
attribute [go_sem] d_s_w d_ls
end Go.Proofs.YthphndhiacikaaaDoor
