/- Contracts of functions of the program vectorraster, each proved for all states that fit its description. No conditions. -/
import Derived.Test.YtjjmjidchehffaaP2L2
set_option maxRecDepth 100000
set_option linter.unusedSimpArgs false
set_option linter.unusedVariables false
namespace Go.Proofs.Ytjjmjidchehffaa
open Go Go.VE
def tb9 : Nat → Option VE.Spec := tabOf [(34, wkIn spDCO), (35, wkIn spCovOf), (36, wkIn spCovOf), (25, wkIn spVRings)]
theorem tb9_34 : tb9 34 = some (wkIn spDCO) := rfl
theorem tb9_35 : tb9 35 = some (wkIn spCovOf) := rfl
theorem tb9_36 : tb9 36 = some (wkIn spCovOf) := rfl
theorem tb9_25 : tb9 25 = some (wkIn spVRings) := rfl
theorem tb9_ok : TabOK Try.prog rt0 tb9 := (tabOf_cons (by kernel_rfl) sat_spec_DrawCoverOf (tabOf_cons (by kernel_rfl) sat_impl_CoverOf (tabOf_cons (by kernel_rfl) sat_spec_CoverOf (tabOf_cons (by kernel_rfl) sat_impl_ValidRings tabOf_nil))))
set_option maxHeartbeats 4000000 in
theorem sat_laws_FnCoverOfTwice_0 : Sat Try.prog rt0 9 spLaw := by
  refine fn_sat hm ttok (tab := tb9) tb9_ok Try.func9 (c := Try.f9.body.getD .skip) (by kernel_rfl) (ts := [.tmp 2]) (by kernel_rfl) Try.ntmps9 (sq := fun _ => true) (by kernel_rfl) ?_
  intro args ins pk hpre0 hpk
  obtain ⟨rfl, hpre0⟩ := hpre0
  obtain ⟨code, rfl, hpre, hdec⟩ := famPre_ex hpre0
  clear hpre0 hdec
  try simp only [spLaw_pre] at hpre
  replace hpk : pk + 100000 ≤ pickLimit := hpk
  refine ⟨Nat.le_of_ble_eq_true rfl, ?_⟩
  simp (config := { maxSteps := 1000000 }) only [go_sem, ↓ifP_true, ↓ifP_false, ↓ifP_not, Nat.reduceLT, Nat.reduceAdd, Nat.reduceBEq, Nat.reduceSub, Nat.reduceLeDiff, Nat.reduceEqDiff, Nat.reduceMul, Int.reduceToNat, Int.reduceEq, Int.reduceLT, Int.reduceLE, Int.reduceAdd, Int.reduceSub, Int.reduceMul, reduceCtorEq, cond_true, cond_false, forall_eq', forall_eq, forall_const, implies_true, if_true, if_false, exists_eq_left', exists_eq', exists_eq, ne_eq, Try.f9, tb9_34, tb9_35, tb9_36, tb9_25, spLaw_q, spLaw_A, spLaw_pre, spLaw_post, spDCO_q, spDCO_A, spDCO_pre, spDCO_post, spCovOf_q, spCovOf_A, spCovOf_pre, spCovOf_post, spVRings_q, spVRings_A, spVRings_pre, spVRings_post]
  repeat' (first | apply And.intro | (intro _) | omega | assumption | with_reducible rfl)
  all_goals (first | ((rw [total_app]; omega); done) | ((obtain ⟨h1, h2, h3, ⟨h4, h5⟩, h6, h7, h8, h9⟩ := law_cov ‹_›; have h10 := h9 ‹vRings _ = true›; obtain ⟨g1, g2, g3, g4⟩ := h10; rw [if_pos g2, if_pos h2, g4]); done) | ((obtain ⟨h1, h2, h3, ⟨h4, h5⟩, h6, h7, h8, h9⟩ := law_cov ‹_›; have h10 := h9 ‹vRings _ = true›; obtain ⟨g1, g2, g3, g4⟩ := h10; simp_all); done))
theorem sat_laws_FnCoverOfTwice : Sat Try.prog rt0 9 (wkIn spLaw) := sat_in sat_laws_FnCoverOfTwice_0
end Go.Proofs.Ytjjmjidchehffaa
