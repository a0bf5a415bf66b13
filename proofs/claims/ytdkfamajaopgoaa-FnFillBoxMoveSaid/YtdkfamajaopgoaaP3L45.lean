/- Contracts of functions of the program vectorraster, each proved for all states that fit its description. No conditions. -/
import Derived.Test.YtdkfamajaopgoaaPMV
import Derived.Test.YtdkfamajaopgoaaP3GN
import Derived.Test.YtdkfamajaopgoaaPH
set_option maxRecDepth 100000
set_option linter.unusedSimpArgs false
set_option linter.unusedVariables false
namespace Go.Proofs.Ytdkfamajaopgoaa
open Go Go.VE
def tb12 : Nat → Option VE.Spec := tabOf [(37, wkIn spDFil), (38, wkIn spFbV), (39, wkIn spFbV), (40, wkIn spMvP)]
theorem tb12_37 : tb12 37 = some (wkIn spDFil) := rfl
theorem tb12_38 : tb12 38 = some (wkIn spFbV) := rfl
theorem tb12_39 : tb12 39 = some (wkIn spFbV) := rfl
theorem tb12_40 : tb12 40 = some (wkIn spMvP) := rfl
theorem tb12_ok : TabOK Try.prog rt0 tb12 := (tabOf_cons (by kernel_rfl) sat_spec_DrawFillBox (tabOf_cons (by kernel_rfl) sat_impl_FillBox (tabOf_cons (by kernel_rfl) sat_spec_FillBox (tabOf_cons (by kernel_rfl) sat_impl_MovePath tabOf_nil))))
set_option maxHeartbeats 4000000 in
theorem sat_laws_FnFillBoxMove_0 : Sat Try.prog rt0 12 spLaw := by
  refine fn_sat hm ttok (tab := tb12) tb12_ok Try.func12 (c := Try.f12.body.getD .skip) (by kernel_rfl) (ts := [.tmp 2]) (by kernel_rfl) Try.ntmps12 (sq := fun _ => true) (by kernel_rfl) ?_
  intro args ins pk hpre0 hpk
  obtain ⟨rfl, hpre0⟩ := hpre0
  obtain ⟨code, rfl, hpre, hdec⟩ := famPre_ex hpre0
  clear hpre0 hdec
  try simp only [spLaw_pre] at hpre
  replace hpk : pk + 100000 ≤ pickLimit := hpk
  refine ⟨Nat.le_of_ble_eq_true rfl, ?_⟩
  simp (config := { maxSteps := 1000000 }) only [go_sem, ↓ifP_true, ↓ifP_false, ↓ifP_not, Nat.reduceLT, Nat.reduceAdd, Nat.reduceBEq, Nat.reduceSub, Nat.reduceLeDiff, Nat.reduceEqDiff, Nat.reduceMul, Int.reduceToNat, Int.reduceEq, Int.reduceLT, Int.reduceLE, Int.reduceAdd, Int.reduceSub, Int.reduceMul, reduceCtorEq, cond_true, cond_false, forall_eq', forall_eq, forall_const, implies_true, if_true, if_false, exists_eq_left', exists_eq', exists_eq, ne_eq, Try.f12, tb12_37, tb12_38, tb12_39, tb12_40, spLaw_q, spLaw_A, spLaw_pre, spLaw_post, spDFil_q, spDFil_A, spDFil_pre, spDFil_post, spFbV_q, spFbV_A, spFbV_pre, spFbV_post, spMvP_q, spMvP_A, spMvP_pre, spMvP_post]
  repeat' (first | apply And.intro | (intro _) | omega | assumption | with_reducible rfl)
  all_goals (first | ((have h9 := (‹okF _›).p; omega); done) | ((have h9 := (‹okF _›).n; omega); done) | (exact okF_mv ‹okF _› _ _; done) | ((have h9 := fb_all ‹Fil›; omega); done) | (exact fb_law ‹_› ‹_›; done) | (exact (fb_law ‹_› ‹_›).symm; done) | (skip; done))
theorem sat_laws_FnFillBoxMove : Sat Try.prog rt0 12 (wkIn spLaw) := sat_in sat_laws_FnFillBoxMove_0
end Go.Proofs.Ytdkfamajaopgoaa
