/- Contracts of functions of the program vectorraster, each proved for all states that fit its description. No conditions. -/
import Derived.Test.YtjjmjidchehffaaP2L2
set_option maxRecDepth 100000
set_option linter.unusedSimpArgs false
set_option linter.unusedVariables false
namespace Go.Proofs.Ytjjmjidchehffaa
open Go Go.VE
def tb11 : Nat → Option VE.Spec := tabOf [(34, wkIn spDCO), (35, wkIn spCovOf), (36, wkIn spCovOf), (23, wkIn spIAt)]
theorem tb11_34 : tb11 34 = some (wkIn spDCO) := rfl
theorem tb11_35 : tb11 35 = some (wkIn spCovOf) := rfl
theorem tb11_36 : tb11 36 = some (wkIn spCovOf) := rfl
theorem tb11_23 : tb11 23 = some (wkIn spIAt) := rfl
theorem tb11_ok : TabOK Try.prog rt0 tb11 := (tabOf_cons (by kernel_rfl) sat_spec_DrawCoverOf (tabOf_cons (by kernel_rfl) sat_impl_CoverOf (tabOf_cons (by kernel_rfl) sat_spec_CoverOf (tabOf_cons (by kernel_rfl) sat_impl_InsideAt tabOf_nil))))
set_option maxHeartbeats 4000000 in
theorem sat_laws_FnCoverOfSamples_0 : Sat Try.prog rt0 11 spLaw := by
  refine fn_sat hm ttok (tab := tb11) tb11_ok Try.func11 (c := Try.f11.body.getD .skip) (by kernel_rfl) (ts := [.tmp 2]) (by kernel_rfl) Try.ntmps11 (sq := fun _ => true) (by kernel_rfl) ?_
  intro args ins pk hpre0 hpk
  obtain ⟨rfl, hpre0⟩ := hpre0
  obtain ⟨code, rfl, hpre, hdec⟩ := famPre_ex hpre0
  clear hpre0 hdec
  try simp only [spLaw_pre] at hpre
  replace hpk : pk + 100000 ≤ pickLimit := hpk
  refine ⟨Nat.le_of_ble_eq_true rfl, ?_⟩
  simp (config := { maxSteps := 1000000 }) only [go_sem, ↓ifP_true, ↓ifP_false, ↓ifP_not, Nat.reduceLT, Nat.reduceAdd, Nat.reduceBEq, Nat.reduceSub, Nat.reduceLeDiff, Nat.reduceEqDiff, Nat.reduceMul, Int.reduceToNat, Int.reduceEq, Int.reduceLT, Int.reduceLE, Int.reduceAdd, Int.reduceSub, Int.reduceMul, reduceCtorEq, cond_true, cond_false, forall_eq', forall_eq, forall_const, implies_true, if_true, if_false, exists_eq_left', exists_eq', exists_eq, ne_eq, Try.f11, tb11_34, tb11_35, tb11_36, tb11_23, spLaw_q, spLaw_A, spLaw_pre, spLaw_post, spDCO_q, spDCO_A, spDCO_pre, spDCO_post, spCovOf_q, spCovOf_A, spCovOf_pre, spCovOf_post, spIAt_q, spIAt_A, spIAt_pre, spIAt_post]
  repeat' (first | apply And.intro | (intro _) | omega | assumption | with_reducible rfl)
  any_goals
    rename_i L rl c w hL1 hL2 hL3 hn
    have hC := cov_pos hn
    refine loopS (α := Int × Int) false [0, 1, 8, 9, 10, 11, 12, 13, 14, 15, 16, 17, 18, 19, 20, 21, 22, 23, 24, 25, 26, 27, 28, 29, 30, 31, 32, 33, 34, 35, 36, 37, 38, 39, 40, 41, 42, 43, 44, 45, 46, 47, 48, 49, 50, 51, 52, 53, 54, 55, 56, 57, 58, 59, 60, 61, 62, 63, 64, 65, 66, 67, 68, 69] (fun σ => []) (fun σ x => [(8, I x.1), (9, I x.2)]) (fun σ x => []) (fun (k, i) => 0) (fun σ => (gI (σ.get 8), gI (σ.get 9))) (fun σ τ => []) (fun (k, i) => (0 ≤ i ∧ i ≤ 16) ∧ k = sumN (smpN L rl c w) i.toNat) (fun (k, i) => (16 - i).toNat) ⟨by (simp (config := { maxSteps := 1000000 }) only [go_sem, ↓ifP_true, ↓ifP_false, ↓ifP_not, Nat.reduceLT, Nat.reduceAdd, Nat.reduceBEq, Nat.reduceSub, Nat.reduceLeDiff, Nat.reduceEqDiff, Nat.reduceMul, Int.reduceToNat, Int.reduceEq, Int.reduceLT, Int.reduceLE, Int.reduceAdd, Int.reduceSub, Int.reduceMul, reduceCtorEq, cond_true, cond_false, forall_eq', forall_eq, forall_const, implies_true, if_true, if_false, exists_eq_left', exists_eq', exists_eq, ne_eq, Try.f11, tb11_34, tb11_35, tb11_36, tb11_23, spLaw_q, spLaw_A, spLaw_pre, spLaw_post, spDCO_q, spDCO_A, spDCO_pre, spDCO_post, spCovOf_q, spCovOf_A, spCovOf_pre, spCovOf_post, spIAt_q, spIAt_A, spIAt_pre, spIAt_post]; (repeat' (first | apply And.intro | (intro _) | omega | assumption | with_reducible rfl)); all_goals (first | rfl)), ?_⟩
    rintro ⟨k, i⟩ hinv
    try dsimp only at hinv
    simp (config := { maxSteps := 1000000 }) only [go_sem, ↓ifP_true, ↓ifP_false, ↓ifP_not, Nat.reduceLT, Nat.reduceAdd, Nat.reduceBEq, Nat.reduceSub, Nat.reduceLeDiff, Nat.reduceEqDiff, Nat.reduceMul, Int.reduceToNat, Int.reduceEq, Int.reduceLT, Int.reduceLE, Int.reduceAdd, Int.reduceSub, Int.reduceMul, reduceCtorEq, cond_true, cond_false, forall_eq', forall_eq, forall_const, implies_true, if_true, if_false, exists_eq_left', exists_eq', exists_eq, ne_eq, Try.f11, tb11_34, tb11_35, tb11_36, tb11_23, spLaw_q, spLaw_A, spLaw_pre, spLaw_post, spDCO_q, spDCO_A, spDCO_pre, spDCO_post, spCovOf_q, spCovOf_A, spCovOf_pre, spCovOf_post, spIAt_q, spIAt_A, spIAt_pre, spIAt_post]
    have hB := smpN_bd L rl c w i.toNat
    have hT : 0 ≤ i.tmod 4 ∧ i.tmod 4 < 4 := tmod_lt (a := i) (n := 4) (by decide) hinv.1.1
    have hD := Int.tdiv_eq_ediv_of_nonneg (b := 4) hinv.1.1
    have hR := okCov_iff.1 hC
    repeat' (first | apply And.intro | (intro _) | omega | assumption | with_reducible rfl)
  all_goals (first | ((rw [sumN_step _ hinv.1.1, smpN_val hC hinv.1.1 (by omega) ‹_›, hinv.2]; rfl); done) | ((rw [sumN_step _ hinv.1.1, smpN_val hC hinv.1.1 (by omega) ‹_›, hinv.2]; simp); done) | ((rw [hinv.2, show i.toNat = 16 by omega, cov_samples, if_pos hC]); done) | ((rw [hinv.2, show i.toNat = 16 by omega, cov_samples, if_pos hC]; simp); done) | (omega; done))
theorem sat_laws_FnCoverOfSamples : Sat Try.prog rt0 11 (wkIn spLaw) := sat_in sat_laws_FnCoverOfSamples_0
end Go.Proofs.Ytjjmjidchehffaa
