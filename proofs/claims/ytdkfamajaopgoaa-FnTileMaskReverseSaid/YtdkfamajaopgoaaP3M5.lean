/- Contracts of functions of the program vectorraster, each proved for all states that fit its description. No conditions. -/
import Derived.Test.YtdkfamajaopgoaaPN
set_option maxRecDepth 100000
set_option linter.unusedSimpArgs false
set_option linter.unusedVariables false
namespace Go.Proofs.Ytdkfamajaopgoaa
open Go Go.VE
def tb10 : Nat → Option VE.Spec := tabOf [(31, wkIn spDTM), (32, wkIn spTMask), (33, wkIn spTMask), (24, wkIn spEqI), (21, wkIn spRev)]
theorem tb10_31 : tb10 31 = some (wkIn spDTM) := rfl
theorem tb10_32 : tb10 32 = some (wkIn spTMask) := rfl
theorem tb10_33 : tb10 33 = some (wkIn spTMask) := rfl
theorem tb10_24 : tb10 24 = some (wkIn spEqI) := rfl
theorem tb10_21 : tb10 21 = some (wkIn spRev) := rfl
theorem tb10_ok : TabOK Try.prog rt0 tb10 := (tabOf_cons (by kernel_rfl) sat_spec_DrawTileMask (tabOf_cons (by kernel_rfl) sat_impl_TileMask (tabOf_cons (by kernel_rfl) sat_spec_TileMask (tabOf_cons (by kernel_rfl) sat_laws_equalInts (tabOf_cons (by kernel_rfl) sat_laws_reversed tabOf_nil)))))
set_option maxHeartbeats 4000000 in
theorem sat_laws_FnTileMaskReverse_0 : Sat Try.prog rt0 10 spLaw := by
  refine fn_sat hm ttok (tab := tb10) tb10_ok Try.func10 (c := Try.f10.body.getD .skip) (by kernel_rfl) (ts := [.tmp 2]) (by kernel_rfl) Try.ntmps10 (sq := fun _ => true) (by kernel_rfl) ?_
  intro args ins pk hpre0 hpk
  obtain ⟨rfl, hpre0⟩ := hpre0
  obtain ⟨code, rfl, hpre, hdec⟩ := famPre_ex hpre0
  clear hpre0 hdec
  try simp only [spLaw_pre] at hpre
  replace hpk : pk + 100000 ≤ pickLimit := hpk
  refine ⟨Nat.le_of_ble_eq_true rfl, ?_⟩
  simp (config := { maxSteps := 1000000 }) only [go_sem, ↓ifP_true, ↓ifP_false, ↓ifP_not, Nat.reduceLT, Nat.reduceAdd, Nat.reduceBEq, Nat.reduceSub, Nat.reduceLeDiff, Nat.reduceEqDiff, Nat.reduceMul, Int.reduceToNat, Int.reduceEq, Int.reduceLT, Int.reduceLE, Int.reduceAdd, Int.reduceSub, Int.reduceMul, reduceCtorEq, cond_true, cond_false, forall_eq', forall_eq, forall_const, implies_true, if_true, if_false, exists_eq_left', exists_eq', exists_eq, ne_eq, Try.f10, tb10_31, tb10_32, tb10_33, tb10_24, tb10_21, spLaw_q, spLaw_A, spLaw_pre, spLaw_post, spDTM_q, spDTM_A, spDTM_pre, spDTM_post, spTMask_q, spTMask_A, spTMask_pre, spTMask_post, spEqI_q, spEqI_A, spEqI_pre, spEqI_post, spRev_q, spRev_A, spRev_pre, spRev_post]
  repeat' (first | apply And.intro | (intro _) | omega | assumption | with_reducible rfl)
  all_goals (first | (exact Nat.le_trans (tmV_le _ _ _ _ _) (by decide); done) | ((rw [revL_len]; omega); done) | ((rw [revL_total]; omega); done) | ((rw [tmV_rev]); done) | (exact tmV_rev _ _ _ _ _; done))
theorem sat_laws_FnTileMaskReverse : Sat Try.prog rt0 10 (wkIn spLaw) := sat_in sat_laws_FnTileMaskReverse_0
end Go.Proofs.Ytdkfamajaopgoaa
