/- Contracts of functions of the program vectorraster, each proved for all states that fit its description. No conditions. -/
import Derived.Test.YtdkfamajaopgoaaPY
import Derived.Test.YtdkfamajaopgoaaPQ
set_option maxRecDepth 100000
set_option linter.unusedSimpArgs false
set_option linter.unusedVariables false
namespace Go.Proofs.Ytdkfamajaopgoaa
open Go Go.VE
def tb38 : Nat → Option VE.Spec := tabOf [(71, wkIn spVFil), (88, wkIn spFlB)]
theorem tb38_71 : tb38 71 = some (wkIn spVFil) := rfl
theorem tb38_88 : tb38 88 = some (wkIn spFlB) := rfl
theorem tb38_ok : TabOK Try.prog rt0 tb38 := (tabOf_cons (by kernel_rfl) sat_impl_Fill_valid (tabOf_cons (by kernel_rfl) sat_impl_Fill_box tabOf_nil))
set_option maxHeartbeats 4000000 in
theorem sat_impl_FillBox_0 : Sat Try.prog rt0 38 (wkOut spFbV) := by
  refine fn_sat hm ttok (tab := tb38) tb38_ok Try.func38 (c := Try.f38.body.getD .skip) (by kernel_rfl) (ts := [.cell 2 50]) (by kernel_rfl) Try.ntmps38 (sq := fun _ => true) (by kernel_rfl) ?_
  intro args ins pk hpre0 hpk
  obtain ⟨rfl, hpre0⟩ := hpre0
  obtain ⟨f, rfl, hpre, hdec⟩ := famPre_ex hpre0
  clear hpre0 hdec
  try simp only [spFbV_pre] at hpre
  replace hpk : pk + 0 ≤ pickLimit := hpk
  refine ⟨Nat.le_of_ble_eq_true rfl, ?_⟩
  simp (config := { maxSteps := 1000000 }) only [go_sem, ↓ifP_true, ↓ifP_false, ↓ifP_not, Nat.reduceLT, Nat.reduceAdd, Nat.reduceBEq, Nat.reduceSub, Nat.reduceLeDiff, Nat.reduceEqDiff, Nat.reduceMul, Int.reduceToNat, Int.reduceEq, Int.reduceLT, Int.reduceLE, Int.reduceAdd, Int.reduceSub, Int.reduceMul, reduceCtorEq, cond_true, cond_false, forall_eq', forall_eq, forall_const, implies_true, if_true, if_false, exists_eq_left', exists_eq', exists_eq, ne_eq, Try.f38, tb38_71, tb38_88, spFbV_q, spFbV_A, spFbV_pre, spFbV_post, spVFil_q, spVFil_A, spVFil_pre, spVFil_post, spFlB_q, spFlB_A, spFlB_pre, spFlB_post]
  repeat' (first | apply And.intro | (intro _) | omega | assumption | with_reducible rfl)
  all_goals (first | (exact hpre; done) | (exact ⟨hpre, ‹_›⟩; done) | ((rw [fbV, if_pos ‹_›]); done) | ((rw [fbV, ‹vFil f = false›]; rfl); done) | (assumption; done) | (rfl; done))
theorem sat_impl_FillBox : Sat Try.prog rt0 38 (wkIn spFbV) := sat_in (sat_out sat_impl_FillBox_0)
def tb39 : Nat → Option VE.Spec := tabOf [(89, wkIn spVFil), (90, wkIn spFlB)]
theorem tb39_89 : tb39 89 = some (wkIn spVFil) := rfl
theorem tb39_90 : tb39 90 = some (wkIn spFlB) := rfl
theorem tb39_ok : TabOK Try.prog rt0 tb39 := (tabOf_cons (by kernel_rfl) sat_spec_validFill (tabOf_cons (by kernel_rfl) sat_spec_fillBox tabOf_nil))
set_option maxHeartbeats 4000000 in
theorem sat_spec_FillBox_0 : Sat Try.prog rt0 39 (wkOut spFbV) := by
  refine fn_sat hm ttok (tab := tb39) tb39_ok Try.func39 (c := Try.f39.body.getD .skip) (by kernel_rfl) (ts := [.cell 2 50]) (by kernel_rfl) Try.ntmps39 (sq := fun _ => true) (by kernel_rfl) ?_
  intro args ins pk hpre0 hpk
  obtain ⟨rfl, hpre0⟩ := hpre0
  obtain ⟨f, rfl, hpre, hdec⟩ := famPre_ex hpre0
  clear hpre0 hdec
  try simp only [spFbV_pre] at hpre
  replace hpk : pk + 0 ≤ pickLimit := hpk
  refine ⟨Nat.le_of_ble_eq_true rfl, ?_⟩
  simp (config := { maxSteps := 1000000 }) only [go_sem, ↓ifP_true, ↓ifP_false, ↓ifP_not, Nat.reduceLT, Nat.reduceAdd, Nat.reduceBEq, Nat.reduceSub, Nat.reduceLeDiff, Nat.reduceEqDiff, Nat.reduceMul, Int.reduceToNat, Int.reduceEq, Int.reduceLT, Int.reduceLE, Int.reduceAdd, Int.reduceSub, Int.reduceMul, reduceCtorEq, cond_true, cond_false, forall_eq', forall_eq, forall_const, implies_true, if_true, if_false, exists_eq_left', exists_eq', exists_eq, ne_eq, Try.f39, tb39_89, tb39_90, spFbV_q, spFbV_A, spFbV_pre, spFbV_post, spVFil_q, spVFil_A, spVFil_pre, spVFil_post, spFlB_q, spFlB_A, spFlB_pre, spFlB_post]
  repeat' (first | apply And.intro | (intro _) | omega | assumption | with_reducible rfl)
  all_goals (first | (exact hpre; done) | (exact ⟨hpre, ‹_›⟩; done) | ((rw [fbV, if_pos ‹_›]); done) | ((rw [fbV, ‹vFil f = false›]; rfl); done) | (assumption; done) | (rfl; done))
theorem sat_spec_FillBox : Sat Try.prog rt0 39 (wkIn spFbV) := sat_in (sat_out sat_spec_FillBox_0)
end Go.Proofs.Ytdkfamajaopgoaa
