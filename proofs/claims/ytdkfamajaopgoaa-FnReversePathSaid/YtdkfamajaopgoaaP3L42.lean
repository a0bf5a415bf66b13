/- Contracts of functions of the program vectorraster, each proved for all states that fit its description. No conditions. -/
import Derived.Test.YtdkfamajaopgoaaPRV
import Derived.Test.YtdkfamajaopgoaaPP
import Derived.Test.YtdkfamajaopgoaaPJ
import Derived.Test.YtdkfamajaopgoaaPH
set_option maxRecDepth 100000
set_option linter.unusedSimpArgs false
set_option linter.unusedVariables false
namespace Go.Proofs.Ytdkfamajaopgoaa
open Go Go.VE
def tb3 : Nat → Option VE.Spec := tabOf [(15, wkIn spDRO), (16, wkIn spRvP), (17, wkIn spRvP), (18, wkIn spEqV), (20, wkIn spRO), (19, wkIn spEqR), (21, wkIn spRev)]
theorem tb3_15 : tb3 15 = some (wkIn spDRO) := rfl
theorem tb3_16 : tb3 16 = some (wkIn spRvP) := rfl
theorem tb3_17 : tb3 17 = some (wkIn spRvP) := rfl
theorem tb3_18 : tb3 18 = some (wkIn spEqV) := rfl
theorem tb3_20 : tb3 20 = some (wkIn spRO) := rfl
theorem tb3_19 : tb3 19 = some (wkIn spEqR) := rfl
theorem tb3_21 : tb3 21 = some (wkIn spRev) := rfl
theorem tb3_ok : TabOK Try.prog rt0 tb3 := (tabOf_cons (by kernel_rfl) sat_spec_DrawReversePath (tabOf_cons (by kernel_rfl) sat_impl_ReversePath (tabOf_cons (by kernel_rfl) sat_spec_ReversePath (tabOf_cons (by kernel_rfl) sat_laws_equalPath (tabOf_cons (by kernel_rfl) sat_impl_RingsOf (tabOf_cons (by kernel_rfl) sat_laws_equalRings (tabOf_cons (by kernel_rfl) sat_laws_reversed tabOf_nil)))))))
set_option maxHeartbeats 4000000 in
theorem sat_laws_FnReversePath_0 : Sat Try.prog rt0 3 spLaw := by
  refine fn_sat hm ttok (tab := tb3) tb3_ok Try.func3 (c := Try.f3.body.getD .skip) (by kernel_rfl) (ts := [.tmp 2]) (by kernel_rfl) Try.ntmps3 (sq := fun _ => true) (by kernel_rfl) ?_
  intro args ins pk hpre0 hpk
  obtain ⟨rfl, hpre0⟩ := hpre0
  obtain ⟨code, rfl, hpre, hdec⟩ := famPre_ex hpre0
  clear hpre0 hdec
  try simp only [spLaw_pre] at hpre
  replace hpk : pk + 100000 ≤ pickLimit := hpk
  refine ⟨Nat.le_of_ble_eq_true rfl, ?_⟩
  simp (config := { maxSteps := 1000000 }) only [go_sem, ↓ifP_true, ↓ifP_false, ↓ifP_not, Nat.reduceLT, Nat.reduceAdd, Nat.reduceBEq, Nat.reduceSub, Nat.reduceLeDiff, Nat.reduceEqDiff, Nat.reduceMul, Int.reduceToNat, Int.reduceEq, Int.reduceLT, Int.reduceLE, Int.reduceAdd, Int.reduceSub, Int.reduceMul, reduceCtorEq, cond_true, cond_false, forall_eq', forall_eq, forall_const, implies_true, if_true, if_false, exists_eq_left', exists_eq', exists_eq, ne_eq, Try.f3, tb3_15, tb3_16, tb3_17, tb3_18, tb3_20, tb3_19, tb3_21, spLaw_q, spLaw_A, spLaw_pre, spLaw_post, spDRO_q, spDRO_A, spDRO_pre, spDRO_post, spRvP_q, spRvP_A, spRvP_pre, spRvP_post, spEqV_q, spEqV_A, spEqV_pre, spEqV_post, spRO_q, spRO_A, spRO_pre, spRO_post, spEqR_q, spEqR_A, spEqR_pre, spEqR_post, spRev_q, spRev_A, spRev_pre, spRev_post]
  repeat' (first | apply And.intro | (intro _) | omega | assumption | with_reducible rfl)
  all_goals (first | ((rw [revL_len]; have h9 := ringsV_len ‹List Verb›; omega); done) | ((rw [revL_total]; have h9 := ringsV_len ‹List Verb›; omega); done) | ((have h9 := ringsV_len ‹List Verb›; omega); done) | (omega; done) | ((have h9 := rvO_len ‹List Verb›; omega); done) | ((have h9 := ringsV_len (rvO ‹List Verb›); have h8 := rvO_len ‹List Verb›; omega); done) | ((have h9 := ringsV_len (rvO (rvO ‹List Verb›)); have h8 := rvO_len (rvO ‹List Verb›); omega); done) | ((have h9 := areaR_bd (ringsV ‹List Verb›); omega); done) | ((rw [rev_rings ‹_›]; simp); done) | (simp_all [rev_rings]; done))
theorem sat_laws_FnReversePath : Sat Try.prog rt0 3 (wkIn spLaw) := sat_in sat_laws_FnReversePath_0
end Go.Proofs.Ytdkfamajaopgoaa
