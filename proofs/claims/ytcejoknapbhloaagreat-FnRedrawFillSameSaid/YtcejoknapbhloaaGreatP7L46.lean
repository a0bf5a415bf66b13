/- Contracts of functions of the program vectorraster, each proved for all states that fit its description. No conditions. -/
import Derived.Test.YtcejoknapbhloaaGreatPRD
import Derived.Test.YtcejoknapbhloaaGreatPV
import Derived.Test.YtcejoknapbhloaaGreatPU
import Derived.Test.YtcejoknapbhloaaGreatPH
set_option maxRecDepth 100000
set_option linter.unusedSimpArgs false
set_option linter.unusedVariables false
namespace Go.Proofs.YtcejoknapbhloaaGreat
open Go Go.VE
theorem rd_lenF (s : Scn) (a : Int) (f : Fil) : (rdF s a f).px.length ≤ 1000000 := by
  unfold rdF
  split
  · have := drawV_len (nxt s a f); dsimp only; omega
  · simp
def tb4 : Nat → Option VE.Spec := tabOf [(12, wkIn spDDm), (13, wkIn spRd), (14, wkIn spRd), (9, wkIn spEqF), (11, wkIn spDrawS), (10, wkIn spEqC)]
theorem tb4_12 : tb4 12 = some (wkIn spDDm) := rfl
theorem tb4_13 : tb4 13 = some (wkIn spRd) := rfl
theorem tb4_14 : tb4 14 = some (wkIn spRd) := rfl
theorem tb4_9 : tb4 9 = some (wkIn spEqF) := rfl
theorem tb4_11 : tb4 11 = some (wkIn spDrawS) := rfl
theorem tb4_10 : tb4 10 = some (wkIn spEqC) := rfl
theorem tb4_ok : TabOK Tryz.prog rt0 tb4 := (tabOf_cons (by kernel_rfl) sat_spec_DrawRedrawFill (tabOf_cons (by kernel_rfl) sat_impl_RedrawFill (tabOf_cons (by kernel_rfl) sat_spec_RedrawFill (tabOf_cons (by kernel_rfl) sat_laws_equalFrame (tabOf_cons (by kernel_rfl) sat_impl_DrawScene (tabOf_cons (by kernel_rfl) sat_laws_equalColors tabOf_nil))))))
set_option maxHeartbeats 4000000 in
theorem sat_laws_FnRedrawFill_0 : Sat Tryz.prog rt0 4 spLaw := by
  refine fn_sat hm ttok (tab := tb4) tb4_ok Tryz.func4 (c := Tryz.f4.body.getD .skip) (by kernel_rfl) (ts := [.tmp 2]) (by kernel_rfl) Tryz.ntmps4 (sq := fun _ => true) (by kernel_rfl) ?_
  intro args ins pk hpre0 hpk
  obtain ⟨rfl, hpre0⟩ := hpre0
  obtain ⟨code, rfl, hpre, hdec⟩ := famPre_ex hpre0
  clear hpre0 hdec
  try simp only [spLaw_pre] at hpre
  replace hpk : pk + 100000 ≤ pickLimit := hpk
  refine ⟨Nat.le_of_ble_eq_true rfl, ?_⟩
  simp (config := { maxSteps := 1000000 }) only [go_sem, ↓ifP_true, ↓ifP_false, ↓ifP_not, Nat.reduceLT, Nat.reduceAdd, Nat.reduceBEq, Nat.reduceSub, Nat.reduceLeDiff, Nat.reduceEqDiff, Nat.reduceMul, Int.reduceToNat, Int.reduceEq, Int.reduceLT, Int.reduceLE, Int.reduceAdd, Int.reduceSub, Int.reduceMul, reduceCtorEq, cond_true, cond_false, forall_eq', forall_eq, forall_const, implies_true, if_true, if_false, exists_eq_left', exists_eq', exists_eq, ne_eq, Tryz.f4, tb4_12, tb4_13, tb4_14, tb4_9, tb4_11, tb4_10, spLaw_q, spLaw_A, spLaw_pre, spLaw_post, spDDm_q, spDDm_A, spDDm_pre, spDDm_post, spRd_q, spRd_A, spRd_pre, spRd_post, spEqF_q, spEqF_A, spEqF_pre, spEqF_post, spDrawS_q, spDrawS_A, spDrawS_pre, spDrawS_post, spEqC_q, spEqC_A, spEqC_pre, spEqC_post, fl_set2]
  repeat' (first | apply And.intro | (intro _) | omega | assumption | with_reducible rfl)
  all_goals (first | ((have h9 := rp_parts ‹okRp _ _ _ = true›; have h8 := (‹okScn _›).fs.len; omega); done) | (exact okFs_set2 (‹okScn _›).fs ‹okF _› _; done) | (exact Nat.le_trans (drawV_len _) (by decide); done) | ((rw [rd_yes ‹okRp _ _ _ = true›]; rfl); done) | (exact (‹okScn _›).fs; done) | (exact ‹okF _›; done) | (exact Nat.le_trans (rd_lenF _ _ _) (by decide); done) | (omega; done) | (skip; done))
theorem sat_laws_FnRedrawFill : Sat Tryz.prog rt0 4 (wkIn spLaw) := sat_in sat_laws_FnRedrawFill_0
end Go.Proofs.YtcejoknapbhloaaGreat
