/- Contracts of functions of the program vectorraster, each proved for all states that fit its description. No conditions. -/
import Derived.Test.YtcejoknapbhloaaP6L32
set_option maxRecDepth 100000
set_option linter.unusedSimpArgs false
set_option linter.unusedVariables false
namespace Go.Proofs.Ytcejoknapbhloaa
open Go Go.VE
def tb8 : Nat → Option VE.Spec := tabOf [(22, wkIn spDSO), (21, wkIn spSpV), (23, wkIn spEqS), (24, wkIn spSpV), (14, wkIn spRev)]
theorem tb8_22 : tb8 22 = some (wkIn spDSO) := rfl
theorem tb8_21 : tb8 21 = some (wkIn spSpV) := rfl
theorem tb8_23 : tb8 23 = some (wkIn spEqS) := rfl
theorem tb8_24 : tb8 24 = some (wkIn spSpV) := rfl
theorem tb8_14 : tb8 14 = some (wkIn spRev) := rfl
theorem tb8_ok : TabOK Try.prog rt0 tb8 := (tabOf_cons (by kernel_rfl) sat_spec_DrawSpansOf (tabOf_cons (by kernel_rfl) sat_impl_SpansOf (tabOf_cons (by kernel_rfl) sat_laws_equalSpans (tabOf_cons (by kernel_rfl) sat_spec_SpansOf (tabOf_cons (by kernel_rfl) sat_laws_reversed tabOf_nil)))))
set_option maxHeartbeats 4000000 in
theorem sat_laws_FnSpansOfReverse_0 : Sat Try.prog rt0 8 spLaw := by
  refine fn_sat hm ttok (tab := tb8) tb8_ok Try.func8 (c := Try.f8.body.getD .skip) (by kernel_rfl) (ts := [.tmp 2]) (by kernel_rfl) Try.ntmps8 (sq := fun _ => true) (by kernel_rfl) ?_
  intro args ins pk hpre0 hpk
  obtain ⟨rfl, hpre0⟩ := hpre0
  obtain ⟨code, rfl, hpre, hdec⟩ := famPre_ex hpre0
  clear hpre0 hdec
  try simp only [spLaw_pre] at hpre
  replace hpk : pk + 100000 ≤ pickLimit := hpk
  refine ⟨Nat.le_of_ble_eq_true rfl, ?_⟩
  simp (config := { maxSteps := 1000000 }) only [go_sem, ↓ifP_true, ↓ifP_false, ↓ifP_not, Nat.reduceLT, Nat.reduceAdd, Nat.reduceBEq, Nat.reduceSub, Nat.reduceLeDiff, Nat.reduceEqDiff, Nat.reduceMul, Int.reduceToNat, Int.reduceEq, Int.reduceLT, Int.reduceLE, Int.reduceAdd, Int.reduceSub, Int.reduceMul, reduceCtorEq, cond_true, cond_false, forall_eq', forall_eq, forall_const, implies_true, if_true, if_false, exists_eq_left', exists_eq', exists_eq, ne_eq, Try.f8, tb8_22, tb8_21, tb8_23, tb8_24, tb8_14, spLaw_q, spLaw_A, spLaw_pre, spLaw_post, spDSO_q, spDSO_A, spDSO_pre, spDSO_post, spSpV_q, spSpV_A, spSpV_pre, spSpV_post, spEqS_q, spEqS_A, spEqS_pre, spEqS_post, spRev_q, spRev_A, spRev_pre, spRev_post]
  repeat' (first | apply And.intro | (intro _) | omega | assumption | with_reducible rfl)
  all_goals (first | (exact spV_le _ _ _; done) | ((rw [revL_len]; omega); done) | ((rw [revL_total]; omega); done) | ((rw [spV_rev]); done) | (exact spV_rev _ _ _; done) | (skip; done))
theorem sat_laws_FnSpansOfReverse : Sat Try.prog rt0 8 (wkIn spLaw) := sat_in sat_laws_FnSpansOfReverse_0
end Go.Proofs.Ytcejoknapbhloaa
