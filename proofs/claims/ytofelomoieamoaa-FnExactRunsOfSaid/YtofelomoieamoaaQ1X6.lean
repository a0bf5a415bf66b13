/- Contracts of functions of the program vectorraster, each proved for all states that fit its description. No conditions. -/
import Derived.Test.YtofelomoieamoaaQ1X5
set_option maxRecDepth 100000
set_option linter.unusedSimpArgs false
set_option linter.unusedVariables false
namespace Go.Proofs.Ytofelomoieamoaa
open Go Go.VE
def tb8 : Nat → Option VE.Spec := tabOf [(18, wkIn spSzF), (20, wkIn spToF), (25, wkIn spRuns), (23, wkIn spRuns), (27, wkIn spEqRs2), (21, wkIn spEqFr), (28, wkIn spMkF), (29, wkIn spMkR), (30, wkIn spHeR)]
theorem tb8_18 : tb8 18 = some (wkIn spSzF) := rfl
theorem tb8_20 : tb8 20 = some (wkIn spToF) := rfl
theorem tb8_25 : tb8 25 = some (wkIn spRuns) := rfl
theorem tb8_23 : tb8 23 = some (wkIn spRuns) := rfl
theorem tb8_27 : tb8 27 = some (wkIn spEqRs2) := rfl
theorem tb8_21 : tb8 21 = some (wkIn spEqFr) := rfl
theorem tb8_28 : tb8 28 = some (wkIn spMkF) := rfl
theorem tb8_29 : tb8 29 = some (wkIn spMkR) := rfl
theorem tb8_30 : tb8 30 = some (wkIn spHeR) := rfl
theorem tb8_ok : TabOK Try.prog rt0 tb8 := (tabOf_cons (by kernel_rfl) sat_laws_szFrame (tabOf_cons (by kernel_rfl) sat_laws_toFrame (tabOf_cons (by kernel_rfl) sat_spec_RunsOf (tabOf_cons (by kernel_rfl) sat_impl_RunsOf (tabOf_cons (by kernel_rfl) sat_laws_eqRunS (tabOf_cons (by kernel_rfl) sat_laws_eqFrame (tabOf_cons (by kernel_rfl) sat_laws_markFrame (tabOf_cons (by kernel_rfl) sat_laws_markRunS (tabOf_cons (by kernel_rfl) sat_laws_heldRunS tabOf_nil)))))))))
set_option maxHeartbeats 4000000 in
theorem sat_laws_FnExactRunsOf_0 : Sat Try.prog rt0 8 spLawF := by
  refine fn_sat hm ttok (tab := tb8) tb8_ok Try.func8 (c := Try.f8.body.getD .skip) (by kernel_rfl) (ts := [.tmp 2]) (by kernel_rfl) Try.ntmps8 (sq := fun _ => true) (by kernel_rfl) ?_
  intro args ins pk hpre0 hpk
  obtain ⟨rfl, hpre0⟩ := hpre0
  obtain ⟨f, rfl, hpre, hdec⟩ := famPre_ex hpre0
  clear hpre0 hdec
  try simp only [spLawF_pre] at hpre
  replace hpk : pk + 0 ≤ pickLimit := hpk
  refine ⟨Nat.le_of_ble_eq_true rfl, ?_⟩
  simp (config := { maxSteps := 1000000 }) only [go_sem, ↓ifP_true, ↓ifP_false, ↓ifP_not, Nat.reduceLT, Nat.reduceAdd, Nat.reduceBEq, Nat.reduceSub, Nat.reduceLeDiff, Nat.reduceEqDiff, Nat.reduceMul, Int.reduceToNat, Int.reduceEq, Int.reduceLT, Int.reduceLE, Int.reduceAdd, Int.reduceSub, Int.reduceMul, reduceCtorEq, cond_true, cond_false, forall_eq', forall_eq, forall_const, implies_true, if_true, if_false, exists_eq_left', exists_eq', exists_eq, ne_eq, Try.f8, tb8_18, tb8_20, tb8_25, tb8_23, tb8_27, tb8_21, tb8_28, tb8_29, tb8_30, spLawF_q, spLawF_A, spLawF_pre, spLawF_post, spSzF_q, spSzF_A, spSzF_pre, spSzF_post, spToF_q, spToF_A, spToF_pre, spToF_post, spRuns_q, spRuns_A, spRuns_pre, spRuns_post, spEqRs2_q, spEqRs2_A, spEqRs2_pre, spEqRs2_post, spEqFr_q, spEqFr_A, spEqFr_pre, spEqFr_post, spMkF_q, spMkF_A, spMkF_B, spMkF_d, spMkF_pre, spMkF_post, spMkR_q, spMkR_A, spMkR_B, spMkR_d, spMkR_pre, spMkR_post, spHeR_q, spHeR_A, spHeR_pre, spHeR_post]
  repeat' (first | apply And.intro | (intro _) | omega | assumption | with_reducible rfl)
  all_goals (first | ((have h9 := szL_bd f.px.length (left := 1048576) (by omega); have h8 := rnF_len f; (try (show (rnF f).length ≤ _)); (try simp only [mkC_len, mkR_len]); omega); done) | (exact mkR_self _ _; done) | (exact (mkR_len _ _).symm; done) | ((rw [mkR_len]; have h9 := szL_bd f.px.length (left := 1048576) (by omega); have h8 : (rnF ⟨f.w, f.h, f.px⟩).length ≤ f.px.length := rnF_len f; omega); done) | ((simp only [mkR_len] at *; omega); done) | ((simp only [mkR_len, not_true_eq_false] at *; done); done) | (exact absurd (by rw [mkR_len]) ‹¬ (_ : Int) = _›; done) | ((simp_all; done); done) | (skip; done))
theorem sat_laws_FnExactRunsOf : Sat Try.prog rt0 8 (wkIn spLawF) := sat_in sat_laws_FnExactRunsOf_0
end Go.Proofs.Ytofelomoieamoaa
