/- Contracts of functions of the program vectorraster, each proved for all states that fit its description. No conditions. -/
import Derived.Test.YtjjmjidchehffaaP2L2
set_option maxRecDepth 100000
set_option linter.unusedSimpArgs false
set_option linter.unusedVariables false
namespace Go.Proofs.Ytjjmjidchehffaa
open Go Go.VE
def tb8 : Nat → Option VE.Spec := tabOf [(34, wkIn spDCO), (35, wkIn spCovOf), (36, wkIn spCovOf)]
theorem tb8_34 : tb8 34 = some (wkIn spDCO) := rfl
theorem tb8_35 : tb8 35 = some (wkIn spCovOf) := rfl
theorem tb8_36 : tb8 36 = some (wkIn spCovOf) := rfl
theorem tb8_ok : TabOK Try.prog rt0 tb8 := (tabOf_cons (by kernel_rfl) sat_spec_DrawCoverOf (tabOf_cons (by kernel_rfl) sat_impl_CoverOf (tabOf_cons (by kernel_rfl) sat_spec_CoverOf tabOf_nil)))
set_option maxHeartbeats 4000000 in
theorem sat_laws_FnCoverOf_0 : Sat Try.prog rt0 8 spLaw := by
  refine fn_sat hm ttok (tab := tb8) tb8_ok Try.func8 (c := Try.f8.body.getD .skip) (by kernel_rfl) (ts := [.tmp 2]) (by kernel_rfl) Try.ntmps8 (sq := fun _ => true) (by kernel_rfl) ?_
  intro args ins pk hpre0 hpk
  obtain ⟨rfl, hpre0⟩ := hpre0
  obtain ⟨code, rfl, hpre, hdec⟩ := famPre_ex hpre0
  clear hpre0 hdec
  try simp only [spLaw_pre] at hpre
  replace hpk : pk + 100000 ≤ pickLimit := hpk
  refine ⟨Nat.le_of_ble_eq_true rfl, ?_⟩
  simp (config := { maxSteps := 1000000 }) only [go_sem, ↓ifP_true, ↓ifP_false, ↓ifP_not, Nat.reduceLT, Nat.reduceAdd, Nat.reduceBEq, Nat.reduceSub, Nat.reduceLeDiff, Nat.reduceEqDiff, Nat.reduceMul, Int.reduceToNat, Int.reduceEq, Int.reduceLT, Int.reduceLE, Int.reduceAdd, Int.reduceSub, Int.reduceMul, reduceCtorEq, cond_true, cond_false, forall_eq', forall_eq, forall_const, implies_true, if_true, if_false, exists_eq_left', exists_eq', exists_eq, ne_eq, Try.f8, tb8_34, tb8_35, tb8_36, spLaw_q, spLaw_A, spLaw_pre, spLaw_post, spDCO_q, spDCO_A, spDCO_pre, spDCO_post, spCovOf_q, spCovOf_A, spCovOf_pre, spCovOf_post]
  repeat' (first | apply And.intro | (intro _) | omega | assumption | with_reducible rfl)
  all_goals (first | ((show total [] ≤ _; simp [total]); done) | ((obtain ⟨h1, h2, h3, ⟨h4, h5⟩, h6, h7, h8, h9⟩ := law_cov ‹_›; rw [if_pos h7, h8]); done) | ((obtain ⟨h1, h2, h3, ⟨h4, h5⟩, h6, h7, h8, h9⟩ := law_cov ‹_›; simp only [if_pos h1, if_pos h2, if_pos h3] at *; omega); done))
theorem sat_laws_FnCoverOf : Sat Try.prog rt0 8 (wkIn spLaw) := sat_in sat_laws_FnCoverOf_0
end Go.Proofs.Ytjjmjidchehffaa
