/- Contracts of functions of the program vectorraster, each proved for all states that fit its description. No conditions. -/
import Derived.Test.YtdkfamajaopgoaaPM
set_option maxRecDepth 100000
set_option linter.unusedSimpArgs false
set_option linter.unusedVariables false
namespace Go.Proofs.Ytdkfamajaopgoaa
open Go Go.VE
def tb6 : Nat → Option VE.Spec := tabOf [(22, wkIn spDMO), (23, wkIn spMask), (25, wkIn spMask), (24, wkIn spEqI), (21, wkIn spRev)]
theorem tb6_22 : tb6 22 = some (wkIn spDMO) := rfl
theorem tb6_23 : tb6 23 = some (wkIn spMask) := rfl
theorem tb6_25 : tb6 25 = some (wkIn spMask) := rfl
theorem tb6_24 : tb6 24 = some (wkIn spEqI) := rfl
theorem tb6_21 : tb6 21 = some (wkIn spRev) := rfl
theorem tb6_ok : TabOK Try.prog rt0 tb6 := (tabOf_cons (by kernel_rfl) sat_spec_DrawMaskOf (tabOf_cons (by kernel_rfl) sat_impl_MaskOf (tabOf_cons (by kernel_rfl) sat_spec_MaskOf (tabOf_cons (by kernel_rfl) sat_laws_equalInts (tabOf_cons (by kernel_rfl) sat_laws_reversed tabOf_nil)))))
set_option maxHeartbeats 4000000 in
theorem sat_laws_FnMaskOfReverse_0 : Sat Try.prog rt0 6 spLaw := by
  refine fn_sat hm ttok (tab := tb6) tb6_ok Try.func6 (c := Try.f6.body.getD .skip) (by kernel_rfl) (ts := [.tmp 2]) (by kernel_rfl) Try.ntmps6 (sq := fun _ => true) (by kernel_rfl) ?_
  intro args ins pk hpre0 hpk
  obtain ⟨rfl, hpre0⟩ := hpre0
  obtain ⟨code, rfl, hpre, hdec⟩ := famPre_ex hpre0
  clear hpre0 hdec
  try simp only [spLaw_pre] at hpre
  replace hpk : pk + 100000 ≤ pickLimit := hpk
  refine ⟨Nat.le_of_ble_eq_true rfl, ?_⟩
  have fold : ∀ (L : List (List Pt)) (rl w h : Int), (if okMask L rl w h = true then maskB L rl ⟨0, 0, w, h⟩ h else []) = maskV L rl w h := fun _ _ _ _ => rfl
  simp (config := { maxSteps := 1000000 }) only [go_sem, ↓ifP_true, ↓ifP_false, ↓ifP_not, Nat.reduceLT, Nat.reduceAdd, Nat.reduceBEq, Nat.reduceSub, Nat.reduceLeDiff, Nat.reduceEqDiff, Nat.reduceMul, Int.reduceToNat, Int.reduceEq, Int.reduceLT, Int.reduceLE, Int.reduceAdd, Int.reduceSub, Int.reduceMul, reduceCtorEq, cond_true, cond_false, forall_eq', forall_eq, forall_const, implies_true, if_true, if_false, exists_eq_left', exists_eq', exists_eq, ne_eq, Try.f6, tb6_22, tb6_23, tb6_25, tb6_24, tb6_21, spLaw_q, spLaw_A, spLaw_pre, spLaw_post, spDMO_q, spDMO_A, spDMO_pre, spDMO_post, spMask_q, spMask_A, spMask_pre, spMask_post, spEqI_q, spEqI_A, spEqI_pre, spEqI_post, spRev_q, spRev_A, spRev_pre, spRev_post, fold]
  repeat' (first | apply And.intro | (intro _) | omega | assumption | with_reducible rfl)
  all_goals (first | (exact Nat.le_trans (maskV_le _ _ _ _) (by decide); done) | ((rw [revL_len]; omega); done) | ((rw [revL_total]; omega); done) | ((rw [maskV_rev]); done) | (exact maskV_rev _ _ _ _; done))
theorem sat_laws_FnMaskOfReverse : Sat Try.prog rt0 6 (wkIn spLaw) := sat_in sat_laws_FnMaskOfReverse_0
end Go.Proofs.Ytdkfamajaopgoaa
