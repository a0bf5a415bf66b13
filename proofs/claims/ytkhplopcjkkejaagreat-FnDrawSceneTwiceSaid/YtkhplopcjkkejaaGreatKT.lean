/- Contracts of functions of the program vectorraster, each proved for all states that fit its description. No conditions. -/
import Derived.Test.YtkhplopcjkkejaaGreatKS
set_option linter.unusedSimpArgs false
set_option linter.unusedVariables false
section
set_option maxRecDepth 100000
set_option linter.unusedSimpArgs false
set_option linter.unusedVariables false
namespace Go.Proofs.YtkhplopcjkkejaaGreat
open Go Go.VE
def d_lco_lco : List AV → Option ((List Colr) × (List Colr))
  | [.c (.sl _ a0), .c (.sl _ a1)] => match decAll coCd a0, decAll coCd a1 with
    | some a0v, some a1v => some (a0v, a1v)
    | _, _ => none
  | _ => none
attribute [go_sem] d_lco_lco
end Go.Proofs.YtkhplopcjkkejaaGreat
end
section
set_option maxRecDepth 100000
set_option linter.unusedSimpArgs false
set_option linter.unusedVariables false
namespace Go.Proofs.YtkhplopcjkkejaaGreat
open Go Go.VE
def d_fr_sc_i : List AV → Option (Frm × Scn × Int)
  | [.agg a0, .agg a1, .c (.v (.int .i64 a2))] => match frCd a0, scCd a1 with
    | some a0v, some a1v => some (a0v, a1v, a2)
    | _, _ => none
  | _ => none
attribute [go_sem] d_fr_sc_i
end Go.Proofs.YtkhplopcjkkejaaGreat
end
section
set_option maxRecDepth 100000
set_option linter.unusedSimpArgs false
set_option linter.unusedVariables false
namespace Go.Proofs.YtkhplopcjkkejaaGreat
open Go Go.VE
def d_lco_f127 : List AV → Option ((List Colr))
  | [.c (.sl _ a0), .c (.fn a1 [])] => match decAll coCd a0, (if a1 = 127 then some () else none) with
    | some a0v, some u1 => some (a0v)
    | _, _ => none
  | _ => none
def d_fr : List AV → Option (Frm)
  | [.agg a0] => match frCd a0 with
    | some a0v => some (a0v)
    | _ => none
  | _ => none
def d_lco : List AV → Option ((List Colr))
  | [.c (.sl _ a0)] => match decAll coCd a0 with
    | some a0v => some (a0v)
    | _ => none
  | _ => none
def d_r_i_i : List AV → Option (Int × Int)
  | [.c .rdr, .c (.v (.int .i64 a1)), .c (.v (.int .i64 a2))] => some (a1, a2)
  | _ => none
def d_fr_fr : List AV → Option (Frm × Frm)
  | [.agg a0, .agg a1] => match frCd a0, frCd a1 with
    | some a0v, some a1v => some (a0v, a1v)
    | _, _ => none
  | _ => none
def d_bx_i_i : List AV → Option (Bx × Int × Int)
  | [.agg a0, .c (.v (.int .i64 a1)), .c (.v (.int .i64 a2))] => match bxCd a0 with
    | some a0v => some (a0v, a1, a2)
    | _ => none
  | _ => none
attribute [go_sem] d_lco_f127 d_fr d_lco d_r_i_i d_fr_fr d_bx_i_i
end Go.Proofs.YtkhplopcjkkejaaGreat
end
section
set_option maxRecDepth 100000
set_option linter.unusedSimpArgs false
set_option linter.unusedVariables false
namespace Go.Proofs.YtkhplopcjkkejaaGreat
open Go Go.VE
def d_li : List AV → Option ((List Int))
  | [.c (.sl _ a0)] => match decAll intCd a0 with
    | some a0v => some (a0v)
    | _ => none
  | _ => none
def d_r_li_i : List AV → Option ((List Int) × Int)
  | [.c .rdr, .c (.sl _ a1), .c (.v (.int .i64 a2))] => match decAll intCd a1 with
    | some a1v => some (a1v, a2)
    | _ => none
  | _ => none
def d_sc_li : List AV → Option (Scn × (List Int))
  | [.agg a0, .c (.sl _ a1)] => match scCd a0, decAll intCd a1 with
    | some a0v, some a1v => some (a0v, a1v)
    | _, _ => none
  | _ => none
def d_r_sc : List AV → Option (Scn)
  | [.c .rdr, .agg a1] => match scCd a1 with
    | some a1v => some (a1v)
    | _ => none
  | _ => none
attribute [go_sem] d_li d_r_li_i d_sc_li d_r_sc
end Go.Proofs.YtkhplopcjkkejaaGreat
end
