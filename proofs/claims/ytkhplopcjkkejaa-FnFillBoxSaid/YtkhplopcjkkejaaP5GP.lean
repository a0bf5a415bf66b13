/- Contracts of functions of the program vectorraster, each proved for all states that fit its description. No conditions. -/
import Derived.Test.YtkhplopcjkkejaaPR
set_option maxRecDepth 100000
set_option linter.unusedSimpArgs false
set_option linter.unusedVariables false
namespace Go.Proofs.Ytkhplopcjkkejaa
open Go Go.VE
def spDFil_A : (List UInt8) → List AV
  | code => [.c (.sl false (byC code))]
def spDFil_pre : (List UInt8) → Prop
  | code => code.length ≤ 1048576
def spDFil_post : (List UInt8) → AV → List Box → Prop
  | code, r, bs => ∃ f : Fil, r = .agg (flC f) ∧ bs = [] ∧ okF f
def spDFil : VE.Spec := famSpecS spDFil_A d_ly spDFil_pre spDFil_post 440 false
theorem spDFil_q : spDFil.flat = false ∧ spDFil.mt = [] ∧ spDFil.shut = true ∧ spDFil.cost = 440 ∧ (∀ a i, spDFil.pre a i = (i = [] ∧ famPre d_ly spDFil_A spDFil_pre a)) ∧ ∀ a i r b, spDFil.post a i r b = (famPost d_ly spDFil_post a r b) := ⟨rfl, rfl, rfl, rfl, fun _ _ => rfl, fun _ _ _ _ => rfl⟩
def tb4 : Nat → Option VE.Spec := tabOf [(12, wkIn spNew), (11, wkIn spAFil)]
theorem tb4_12 : tb4 12 = some (wkIn spNew) := rfl
theorem tb4_11 : tb4 11 = some (wkIn spAFil) := rfl
theorem tb4_ok : TabOK Try.prog rt0 tb4 := (tabOf_cons (by kernel_rfl) sat_spec_newReader (tabOf_cons (by kernel_rfl) sat_spec_anyFill tabOf_nil))
set_option maxHeartbeats 4000000 in
theorem sat_spec_DrawFillBox_0 : Sat Try.prog rt0 4 (wkOut spDFil) := by
  refine fn_sat hm ttok (tab := tb4) tb4_ok Try.func4 (c := Try.f4.body.getD .skip) (by kernel_rfl) (ts := [.cell 2 30]) (by kernel_rfl) Try.ntmps4 (sq := fun _ => true) (by kernel_rfl) ?_
  intro args ins pk hpre0 hpk
  obtain ⟨rfl, hpre0⟩ := hpre0
  obtain ⟨code, rfl, hpre, hdec⟩ := famPre_ex hpre0
  clear hpre0 hdec
  try simp only [spDFil_pre] at hpre
  replace hpk : pk + 440 ≤ pickLimit := hpk
  refine ⟨Nat.le_of_ble_eq_true rfl, ?_⟩
  simp (config := { maxSteps := 1000000 }) only [go_sem, ↓ifP_true, ↓ifP_false, ↓ifP_not, Nat.reduceLT, Nat.reduceAdd, Nat.reduceBEq, Nat.reduceSub, Nat.reduceLeDiff, Nat.reduceEqDiff, Nat.reduceMul, Int.reduceToNat, Int.reduceEq, Int.reduceLT, Int.reduceLE, Int.reduceAdd, Int.reduceSub, Int.reduceMul, reduceCtorEq, cond_true, cond_false, forall_eq', forall_eq, forall_const, implies_true, if_true, if_false, exists_eq_left', exists_eq', exists_eq, ne_eq, Try.f4, tb4_12, tb4_11, spDFil_q, spDFil_A, spDFil_pre, spDFil_post, spNew_q, spAFil_q, spAFil_A, spAFil_pre, spAFil_post]
  repeat' (first | apply And.intro | (intro _) | omega | assumption | with_reducible rfl)
  all_goals (first | (exact ⟨_, _, rfl, rfl, hpre⟩; done) | (assumption; done) | (exact ⟨_, rfl, ‹okF _›⟩; done))
theorem sat_spec_DrawFillBox : Sat Try.prog rt0 4 (wkIn spDFil) := sat_in (sat_out sat_spec_DrawFillBox_0)
end Go.Proofs.Ytkhplopcjkkejaa
