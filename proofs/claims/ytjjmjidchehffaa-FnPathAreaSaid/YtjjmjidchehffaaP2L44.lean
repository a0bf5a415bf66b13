/- Contracts of functions of the program vectorraster, each proved for all states that fit its description. No conditions. -/
import Derived.Test.YtjjmjidchehffaaPRV
import Derived.Test.YtjjmjidchehffaaPP
import Derived.Test.YtjjmjidchehffaaPH
set_option maxRecDepth 100000
set_option linter.unusedSimpArgs false
set_option linter.unusedVariables false
namespace Go.Proofs.Ytjjmjidchehffaa
open Go Go.VE
def tb14 : Nat → Option VE.Spec := tabOf [(45, wkIn spDRO), (33, wkIn spPA), (46, wkIn spPA), (32, wkIn spVPath), (39, wkIn spRvP), (29, wkIn spRO), (47, wkIn spArea), (25, wkIn spVRings)]
theorem tb14_45 : tb14 45 = some (wkIn spDRO) := rfl
theorem tb14_33 : tb14 33 = some (wkIn spPA) := rfl
theorem tb14_46 : tb14 46 = some (wkIn spPA) := rfl
theorem tb14_32 : tb14 32 = some (wkIn spVPath) := rfl
theorem tb14_39 : tb14 39 = some (wkIn spRvP) := rfl
theorem tb14_29 : tb14 29 = some (wkIn spRO) := rfl
theorem tb14_47 : tb14 47 = some (wkIn spArea) := rfl
theorem tb14_25 : tb14 25 = some (wkIn spVRings) := rfl
theorem tb14_ok : TabOK Try.prog rt0 tb14 := (tabOf_cons (by kernel_rfl) sat_spec_DrawPathArea (tabOf_cons (by kernel_rfl) sat_impl_PathArea (tabOf_cons (by kernel_rfl) sat_spec_PathArea (tabOf_cons (by kernel_rfl) sat_impl_ValidPath (tabOf_cons (by kernel_rfl) sat_impl_ReversePath (tabOf_cons (by kernel_rfl) sat_impl_RingsOf (tabOf_cons (by kernel_rfl) sat_impl_AreaOf (tabOf_cons (by kernel_rfl) sat_impl_ValidRings tabOf_nil))))))))
set_option maxHeartbeats 4000000 in
theorem sat_laws_FnPathArea_0 : Sat Try.prog rt0 14 spLaw := by
  refine fn_sat hm ttok (tab := tb14) tb14_ok Try.func14 (c := Try.f14.body.getD .skip) (by kernel_rfl) (ts := [.tmp 2]) (by kernel_rfl) Try.ntmps14 (sq := fun _ => true) (by kernel_rfl) ?_
  intro args ins pk hpre0 hpk
  obtain ⟨rfl, hpre0⟩ := hpre0
  obtain ⟨code, rfl, hpre, hdec⟩ := famPre_ex hpre0
  clear hpre0 hdec
  try simp only [spLaw_pre] at hpre
  replace hpk : pk + 100000 ≤ pickLimit := hpk
  refine ⟨Nat.le_of_ble_eq_true rfl, ?_⟩
  simp (config := { maxSteps := 1000000 }) only [go_sem, ↓ifP_true, ↓ifP_false, ↓ifP_not, Nat.reduceLT, Nat.reduceAdd, Nat.reduceBEq, Nat.reduceSub, Nat.reduceLeDiff, Nat.reduceEqDiff, Nat.reduceMul, Int.reduceToNat, Int.reduceEq, Int.reduceLT, Int.reduceLE, Int.reduceAdd, Int.reduceSub, Int.reduceMul, reduceCtorEq, cond_true, cond_false, forall_eq', forall_eq, forall_const, implies_true, if_true, if_false, exists_eq_left', exists_eq', exists_eq, ne_eq, Try.f14, tb14_45, tb14_33, tb14_46, tb14_32, tb14_39, tb14_29, tb14_47, tb14_25, spLaw_q, spLaw_A, spLaw_pre, spLaw_post, spDRO_q, spDRO_A, spDRO_pre, spDRO_post, spPA_q, spPA_A, spPA_pre, spPA_post, spVPath_q, spVPath_A, spVPath_pre, spVPath_post, spRvP_q, spRvP_A, spRvP_pre, spRvP_post, spRO_q, spRO_A, spRO_pre, spRO_post, spArea_q, spArea_A, spArea_pre, spArea_post, spVRings_q, spVRings_A, spVRings_pre, spVRings_post]
  repeat' (first | apply And.intro | (intro _) | omega | assumption | with_reducible rfl)
  all_goals (first | ((rw [revL_len]; have h9 := ringsV_len ‹List Verb›; omega); done) | ((rw [revL_total]; have h9 := ringsV_len ‹List Verb›; omega); done) | ((have h9 := ringsV_len ‹List Verb›; omega); done) | (omega; done) | ((have h9 := rvO_len ‹List Verb›; omega); done) | ((have h9 := ringsV_len (rvO ‹List Verb›); have h8 := rvO_len ‹List Verb›; omega); done) | ((have h9 := ringsV_len (rvO (rvO ‹List Verb›)); have h8 := rvO_len (rvO ‹List Verb›); omega); done) | ((have h9 := areaR_bd (ringsV ‹List Verb›); omega); done) | ((exfalso; have h9 := rev_area ‹rvB _ = true›; omega); done) | (exact absurd rfl ‹¬ areaR _ = _›; done))
theorem sat_laws_FnPathArea : Sat Try.prog rt0 14 (wkIn spLaw) := sat_in sat_laws_FnPathArea_0
end Go.Proofs.Ytjjmjidchehffaa
