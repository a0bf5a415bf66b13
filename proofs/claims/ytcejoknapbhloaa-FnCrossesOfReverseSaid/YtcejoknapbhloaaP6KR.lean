/- Contracts of functions of the program vectorraster, each proved for all states that fit its description. No conditions. -/
import Derived.Test.YtcejoknapbhloaaKK
set_option maxRecDepth 100000
set_option linter.unusedSimpArgs false
set_option linter.unusedVariables false
namespace Go.Proofs.Ytcejoknapbhloaa
open Go Go.VE
def d_li : List AV → Option ((List Int))
  | [.c (.sl _ a0)] => match decAll intCd a0 with
    | some a0v => some (a0v)
    | _ => none
  | _ => none
def d_lcr_lcr : List AV → Option ((List Cross) × (List Cross))
  | [.c (.sl _ a0), .c (.sl _ a1)] => match decAll crCd a0, decAll crCd a1 with
    | some a0v, some a1v => some (a0v, a1v)
    | _, _ => none
  | _ => none
def d_lsp_lsp : List AV → Option ((List Span) × (List Span))
  | [.c (.sl _ a0), .c (.sl _ a1)] => match decAll spCd a0, decAll spCd a1 with
    | some a0v, some a1v => some (a0v, a1v)
    | _, _ => none
  | _ => none
attribute [go_sem] d_li d_lcr_lcr d_lsp_lsp
end Go.Proofs.Ytcejoknapbhloaa
