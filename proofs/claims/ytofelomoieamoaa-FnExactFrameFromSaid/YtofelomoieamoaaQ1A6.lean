/- Contracts of functions of the program vectorraster, each proved for all states that fit its description. No conditions. -/
import Derived.Test.YtofelomoieamoaaQ1A5
set_option maxRecDepth 100000
set_option linter.unusedSimpArgs false
set_option linter.unusedVariables false
namespace Go.Proofs.Ytofelomoieamoaa
open Go Go.VE
def tb25 : Nat → Option VE.Spec := tabOf [(45, wkIn spVFrm)]
theorem tb25_45 : tb25 45 = some (wkIn spVFrm) := rfl
theorem tb25_ok : TabOK Try.prog rt0 tb25 := (tabOf_cons (by kernel_rfl) sat_spec_validFrame tabOf_nil)
set_option maxHeartbeats 4000000 in
theorem sat_spec_RunsOf_0 : Sat Try.prog rt0 25 (wkOut spRuns) := by
  refine fn_sat hm ttok (tab := tb25) tb25_ok Try.func25 (c := Try.f25.body.getD .skip) (by kernel_rfl) (ts := [.tmp 2]) (by kernel_rfl) Try.ntmps25 (sq := fun _ => true) (by kernel_rfl) ?_
  intro args ins pk hpre0 hpk
  obtain ⟨rfl, hpre0⟩ := hpre0
  obtain ⟨f, rfl, hpre, hdec⟩ := famPre_ex hpre0
  clear hpre0 hdec
  try simp only [spRuns_pre] at hpre
  replace hpk : pk + 0 ≤ pickLimit := hpk
  refine ⟨Nat.le_of_ble_eq_true rfl, ?_⟩
  simp (config := { maxSteps := 1000000 }) only [go_sem, ↓ifP_true, ↓ifP_false, ↓ifP_not, Nat.reduceLT, Nat.reduceAdd, Nat.reduceBEq, Nat.reduceSub, Nat.reduceLeDiff, Nat.reduceEqDiff, Nat.reduceMul, Int.reduceToNat, Int.reduceEq, Int.reduceLT, Int.reduceLE, Int.reduceAdd, Int.reduceSub, Int.reduceMul, reduceCtorEq, cond_true, cond_false, forall_eq', forall_eq, forall_const, implies_true, if_true, if_false, exists_eq_left', exists_eq', exists_eq, ne_eq, Try.f25, tb25_45, spRuns_q, spRuns_A, spRuns_pre, spRuns_post, spVFrm_q, spVFrm_A, spVFrm_pre, spVFrm_post, rn_set]
  repeat' (first | apply And.intro | (intro _) | omega | assumption | with_reducible rfl)
  any_goals
    refine loopS (α := (List Rn) × Int) false [0, 3, 4, 5, 6, 7, 8, 9, 10, 11, 12, 13, 14, 15, 16, 17, 18, 19, 20, 21, 22, 23, 24, 25, 26, 27, 28, 29, 30, 31, 32, 33, 34, 35, 36, 37, 38, 39, 40, 41, 42, 43, 44, 45, 46, 47, 48, 49, 50, 51] (fun σ => [gId (σ.get 3)]) (fun σ x => [(3, .c (.own (gId (σ.get 3)) (x.1).length false)), (4, I x.2)]) (fun σ x => [(gId (σ.get 3), some ⟨(x.1).map rnC, 5, 46, true, false⟩)]) (fun (o, i) => 0) (fun σ => (gL rnCd σ (σ.get 3), gI (σ.get 4))) (fun σ τ => [(gId (σ.get 3), gId (τ.get 3))]) (fun (o, i) => (0 ≤ i ∧ i ≤ f.px.length) ∧ o = rF (f.px.take i.toNat) ∧ bdR f.px i.toNat) (fun (o, i) => (f.px.length - i).toNat) ⟨by (simp (config := { maxSteps := 1000000 }) only [go_sem, ↓ifP_true, ↓ifP_false, ↓ifP_not, Nat.reduceLT, Nat.reduceAdd, Nat.reduceBEq, Nat.reduceSub, Nat.reduceLeDiff, Nat.reduceEqDiff, Nat.reduceMul, Int.reduceToNat, Int.reduceEq, Int.reduceLT, Int.reduceLE, Int.reduceAdd, Int.reduceSub, Int.reduceMul, reduceCtorEq, cond_true, cond_false, forall_eq', forall_eq, forall_const, implies_true, if_true, if_false, exists_eq_left', exists_eq', exists_eq, ne_eq, Try.f25, tb25_45, spRuns_q, spRuns_A, spRuns_pre, spRuns_post, spVFrm_q, spVFrm_A, spVFrm_pre, spVFrm_post, rn_set]; (repeat' (first | apply And.intro | (intro _) | omega | assumption | with_reducible rfl)); all_goals (first | rfl | exact bdR_0 _)), ?_⟩
    rintro ⟨o, i⟩ hinv
    try dsimp only at hinv
    rcases elemAt f.px i (by omega) with ⟨hlt, c, hk⟩ | hlt
    all_goals (first | ((have hlt2 := of_eq_true hlt); all_goals simp (config := { maxSteps := 1000000 }) only [go_sem, ↓ifP_true, ↓ifP_false, ↓ifP_not, Nat.reduceLT, Nat.reduceAdd, Nat.reduceBEq, Nat.reduceSub, Nat.reduceLeDiff, Nat.reduceEqDiff, Nat.reduceMul, Int.reduceToNat, Int.reduceEq, Int.reduceLT, Int.reduceLE, Int.reduceAdd, Int.reduceSub, Int.reduceMul, reduceCtorEq, cond_true, cond_false, forall_eq', forall_eq, forall_const, implies_true, if_true, if_false, exists_eq_left', exists_eq', exists_eq, ne_eq, Try.f25, tb25_45, spRuns_q, spRuns_A, spRuns_pre, spRuns_post, spVFrm_q, spVFrm_A, spVFrm_pre, spVFrm_post, rn_set, hlt, hk]) | (have hlt2 := of_eq_false hlt; simp (config := { maxSteps := 1000000 }) only [go_sem, ↓ifP_true, ↓ifP_false, ↓ifP_not, Nat.reduceLT, Nat.reduceAdd, Nat.reduceBEq, Nat.reduceSub, Nat.reduceLeDiff, Nat.reduceEqDiff, Nat.reduceMul, Int.reduceToNat, Int.reduceEq, Int.reduceLT, Int.reduceLE, Int.reduceAdd, Int.reduceSub, Int.reduceMul, reduceCtorEq, cond_true, cond_false, forall_eq', forall_eq, forall_const, implies_true, if_true, if_false, exists_eq_left', exists_eq', exists_eq, ne_eq, Try.f25, tb25_45, spRuns_q, spRuns_A, spRuns_pre, spRuns_post, spVFrm_q, spVFrm_A, spVFrm_pre, spVFrm_post, rn_set, hlt]))
    all_goals
      repeat' (first | apply And.intro | (intro _) | omega | assumption | with_reducible rfl)
  
  any_goals
    have hk0 := hk
    have hlt0 := hlt
    have hI := hinv
    refine loopS (α := Int) false [0, 5, 6, 7, 8, 9, 10, 11, 12, 13, 14, 15, 16, 17, 18, 19, 20, 21, 22, 23, 24, 25, 26, 27, 28, 29, 30, 31, 32, 33, 34, 35, 36, 37, 38] (fun σ => []) (fun σ x => [(5, I x)]) (fun σ x => []) (fun n => 0) (fun σ => gI (σ.get 5)) (fun σ τ => []) (fun n => (1 ≤ n ∧ i + n ≤ f.px.length) ∧ f.px.take (i + n).toNat = f.px.take i.toNat ++ List.replicate n.toNat c) (fun n => (f.px.length - n).toNat) ⟨by (simp (config := { maxSteps := 1000000 }) only [go_sem, ↓ifP_true, ↓ifP_false, ↓ifP_not, Nat.reduceLT, Nat.reduceAdd, Nat.reduceBEq, Nat.reduceSub, Nat.reduceLeDiff, Nat.reduceEqDiff, Nat.reduceMul, Int.reduceToNat, Int.reduceEq, Int.reduceLT, Int.reduceLE, Int.reduceAdd, Int.reduceSub, Int.reduceMul, reduceCtorEq, cond_true, cond_false, forall_eq', forall_eq, forall_const, implies_true, if_true, if_false, exists_eq_left', exists_eq', exists_eq, ne_eq, Try.f25, tb25_45, spRuns_q, spRuns_A, spRuns_pre, spRuns_post, spVFrm_q, spVFrm_A, spVFrm_pre, spVFrm_post, rn_set, hlt0, hk0]; (repeat' (first | apply And.intro | (intro _) | omega | assumption | with_reducible rfl)); all_goals (first | exact sp_1i hI.1.1 hk0)), ?_⟩
    rintro n hinv
    try dsimp only at hinv
    simp (config := { maxSteps := 1000000 }) only [go_sem, ↓ifP_true, ↓ifP_false, ↓ifP_not, Nat.reduceLT, Nat.reduceAdd, Nat.reduceBEq, Nat.reduceSub, Nat.reduceLeDiff, Nat.reduceEqDiff, Nat.reduceMul, Int.reduceToNat, Int.reduceEq, Int.reduceLT, Int.reduceLE, Int.reduceAdd, Int.reduceSub, Int.reduceMul, reduceCtorEq, cond_true, cond_false, forall_eq', forall_eq, forall_const, implies_true, if_true, if_false, exists_eq_left', exists_eq', exists_eq, ne_eq, Try.f25, tb25_45, spRuns_q, spRuns_A, spRuns_pre, spRuns_post, spVFrm_q, spVFrm_A, spVFrm_pre, spVFrm_post, rn_set, hlt0, hk0]
    repeat' (first | apply And.intro | (intro _) | omega | assumption | with_reducible rfl)
  all_goals (first | (exact sp_ini hI.1.1 hinv.1.1 hinv.2 ‹_› ‹_›; done) | (exact sp_outi hI.1.1 hinv.1.1 hI.2.2 hk0 hI.2.1 hinv.2; done) | (exact sp_bdi hI.1.1 hinv.1.1 hI.2.2 hk0 hinv.2 (sp_d1 ‹_› ‹_›); done) | (exact sp_bdi hI.1.1 hinv.1.1 hI.2.2 hk0 hinv.2 (sp_d2 ‹_› (by omega)); done) | (exact runs_e ‹vFrm f = true› hlt2 hinv.2.1; done) | ((rw [runs_e ‹vFrm f = true› hlt2 hinv.2.1]); done) | ((have h9 := rF_len2 (l := f.px) i.toNat; rw [← hI.2.1] at h9; omega); done) | (rfl; done) | ((rw [rn_no ‹_›]; rfl); done) | ((rw [rn_no ‹_›]); done) | (exact bdR_0 _; done) | (skip; done))
theorem sat_spec_RunsOf : Sat Try.prog rt0 25 (wkIn spRuns) := sat_in (sat_out sat_spec_RunsOf_0)
end Go.Proofs.Ytofelomoieamoaa
