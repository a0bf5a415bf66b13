/- Contracts of functions of the program vectorraster, each proved for all states that fit its description. No conditions. -/
import Derived.Test.YtjjmjidchehffaaPRV
import Derived.Test.YtjjmjidchehffaaPP
import Derived.Test.YtjjmjidchehffaaPH
set_option maxRecDepth 100000
set_option linter.unusedSimpArgs false
set_option linter.unusedVariables false
namespace Go.Proofs.Ytjjmjidchehffaa
open Go Go.VE
def tb12 : Nat → Option VE.Spec := tabOf [(38, wkIn spDRO), (39, wkIn spRvP), (40, wkIn spRvP), (41, wkIn spEqV), (29, wkIn spRO), (30, wkIn spEqR)]
theorem tb12_38 : tb12 38 = some (wkIn spDRO) := rfl
theorem tb12_39 : tb12 39 = some (wkIn spRvP) := rfl
theorem tb12_40 : tb12 40 = some (wkIn spRvP) := rfl
theorem tb12_41 : tb12 41 = some (wkIn spEqV) := rfl
theorem tb12_29 : tb12 29 = some (wkIn spRO) := rfl
theorem tb12_30 : tb12 30 = some (wkIn spEqR) := rfl
theorem tb12_ok : TabOK Try.prog rt0 tb12 := (tabOf_cons (by kernel_rfl) sat_spec_DrawReversePath (tabOf_cons (by kernel_rfl) sat_impl_ReversePath (tabOf_cons (by kernel_rfl) sat_spec_ReversePath (tabOf_cons (by kernel_rfl) sat_laws_equalPath (tabOf_cons (by kernel_rfl) sat_impl_RingsOf (tabOf_cons (by kernel_rfl) sat_laws_equalRings tabOf_nil))))))
set_option maxHeartbeats 4000000 in
theorem sat_laws_FnReversePathTwice_0 : Sat Try.prog rt0 12 spLaw := by
  refine fn_sat hm ttok (tab := tb12) tb12_ok Try.func12 (c := Try.f12.body.getD .skip) (by kernel_rfl) (ts := [.tmp 2]) (by kernel_rfl) Try.ntmps12 (sq := fun _ => true) (by kernel_rfl) ?_
  intro args ins pk hpre0 hpk
  obtain ⟨rfl, hpre0⟩ := hpre0
  obtain ⟨code, rfl, hpre, hdec⟩ := famPre_ex hpre0
  clear hpre0 hdec
  try simp only [spLaw_pre] at hpre
  replace hpk : pk + 100000 ≤ pickLimit := hpk
  refine ⟨Nat.le_of_ble_eq_true rfl, ?_⟩
  simp (config := { maxSteps := 1000000 }) only [go_sem, ↓ifP_true, ↓ifP_false, ↓ifP_not, Nat.reduceLT, Nat.reduceAdd, Nat.reduceBEq, Nat.reduceSub, Nat.reduceLeDiff, Nat.reduceEqDiff, Nat.reduceMul, Int.reduceToNat, Int.reduceEq, Int.reduceLT, Int.reduceLE, Int.reduceAdd, Int.reduceSub, Int.reduceMul, reduceCtorEq, cond_true, cond_false, forall_eq', forall_eq, forall_const, implies_true, if_true, if_false, exists_eq_left', exists_eq', exists_eq, ne_eq, Try.f12, tb12_38, tb12_39, tb12_40, tb12_41, tb12_29, tb12_30, spLaw_q, spLaw_A, spLaw_pre, spLaw_post, spDRO_q, spDRO_A, spDRO_pre, spDRO_post, spRvP_q, spRvP_A, spRvP_pre, spRvP_post, spEqV_q, spEqV_A, spEqV_pre, spEqV_post, spRO_q, spRO_A, spRO_pre, spRO_post, spEqR_q, spEqR_A, spEqR_pre, spEqR_post]
  repeat' (first | apply And.intro | (intro _) | omega | assumption | with_reducible rfl)
  all_goals (first | ((rw [revL_len]; have h9 := ringsV_len ‹List Verb›; omega); done) | ((rw [revL_total]; have h9 := ringsV_len ‹List Verb›; omega); done) | ((have h9 := ringsV_len ‹List Verb›; omega); done) | (omega; done) | ((have h9 := rvO_len ‹List Verb›; omega); done) | ((have h9 := ringsV_len (rvO ‹List Verb›); have h8 := rvO_len ‹List Verb›; omega); done) | ((have h9 := ringsV_len (rvO (rvO ‹List Verb›)); have h8 := rvO_len (rvO ‹List Verb›); omega); done) | ((have h9 := areaR_bd (ringsV ‹List Verb›); omega); done) | (simp_all [rev_twice]; done))
theorem sat_laws_FnReversePathTwice : Sat Try.prog rt0 12 (wkIn spLaw) := sat_in sat_laws_FnReversePathTwice_0
end Go.Proofs.Ytjjmjidchehffaa
