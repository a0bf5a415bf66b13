/- Contracts of functions of the program vectorraster, each proved for all states that fit its description. No conditions. -/
import Derived.Test.YtjjmjidchehffaaP2L9
set_option maxRecDepth 100000
set_option linter.unusedSimpArgs false
set_option linter.unusedVariables false
namespace Go.Proofs.Ytjjmjidchehffaa
open Go Go.VE
def tb4 : Nat → Option VE.Spec := tabOf [(15, wkIn spDSC), (16, wkIn spSpanC), (17, wkIn spSpanC)]
theorem tb4_15 : tb4 15 = some (wkIn spDSC) := rfl
theorem tb4_16 : tb4 16 = some (wkIn spSpanC) := rfl
theorem tb4_17 : tb4 17 = some (wkIn spSpanC) := rfl
theorem tb4_ok : TabOK Try.prog rt0 tb4 := (tabOf_cons (by kernel_rfl) sat_spec_DrawSpanCover (tabOf_cons (by kernel_rfl) sat_impl_SpanCover (tabOf_cons (by kernel_rfl) sat_spec_SpanCover tabOf_nil)))
set_option maxHeartbeats 4000000 in
theorem sat_laws_FnSpanCoverSum_0 : Sat Try.prog rt0 4 spLaw := by
  refine fn_sat hm ttok (tab := tb4) tb4_ok Try.func4 (c := Try.f4.body.getD .skip) (by kernel_rfl) (ts := [.tmp 2]) (by kernel_rfl) Try.ntmps4 (sq := fun _ => true) (by kernel_rfl) ?_
  intro args ins pk hpre0 hpk
  obtain ⟨rfl, hpre0⟩ := hpre0
  obtain ⟨code, rfl, hpre, hdec⟩ := famPre_ex hpre0
  clear hpre0 hdec
  try simp only [spLaw_pre] at hpre
  replace hpk : pk + 100000 ≤ pickLimit := hpk
  refine ⟨Nat.le_of_ble_eq_true rfl, ?_⟩
  simp (config := { maxSteps := 1000000 }) only [go_sem, ↓ifP_true, ↓ifP_false, ↓ifP_not, Nat.reduceLT, Nat.reduceAdd, Nat.reduceBEq, Nat.reduceSub, Nat.reduceLeDiff, Nat.reduceEqDiff, Nat.reduceMul, Int.reduceToNat, Int.reduceEq, Int.reduceLT, Int.reduceLE, Int.reduceAdd, Int.reduceSub, Int.reduceMul, reduceCtorEq, cond_true, cond_false, forall_eq', forall_eq, forall_const, implies_true, if_true, if_false, exists_eq_left', exists_eq', exists_eq, ne_eq, Try.f4, tb4_15, tb4_16, tb4_17, spLaw_q, spLaw_A, spLaw_pre, spLaw_post, spDSC_q, spDSC_A, spDSC_pre, spDSC_post, spSpanC_q, spSpanC_A, spSpanC_pre, spSpanC_post]
  repeat' (first | apply And.intro | (intro _) | omega | assumption | with_reducible rfl)
  any_goals
    rename_i q c0 hL hn
    have hq := span_pos hn
    refine loopS (α := Int × Int) false [0, 1, 4, 5, 6, 7, 9, 10, 11, 12, 13, 14, 15, 16, 17, 18, 19, 20, 21, 22, 23, 24, 25, 26, 27, 28, 29, 30, 31, 32, 33, 34, 35, 36, 37, 38, 39, 40, 41, 42, 46] (fun σ => []) (fun σ x => [(6, I x.1), (7, I x.2)]) (fun σ x => []) (fun (a, c) => 0) (fun σ => (gI (σ.get 6), gI (σ.get 7))) (fun σ τ => []) (fun (a, c) => (0 ≤ c ∧ c ≤ 12) ∧ a = sumN (fun j => ovls q j) c.toNat) (fun (a, c) => (12 - c).toNat) ⟨by (simp (config := { maxSteps := 1000000 }) only [go_sem, ↓ifP_true, ↓ifP_false, ↓ifP_not, Nat.reduceLT, Nat.reduceAdd, Nat.reduceBEq, Nat.reduceSub, Nat.reduceLeDiff, Nat.reduceEqDiff, Nat.reduceMul, Int.reduceToNat, Int.reduceEq, Int.reduceLT, Int.reduceLE, Int.reduceAdd, Int.reduceSub, Int.reduceMul, reduceCtorEq, cond_true, cond_false, forall_eq', forall_eq, forall_const, implies_true, if_true, if_false, exists_eq_left', exists_eq', exists_eq, ne_eq, Try.f4, tb4_15, tb4_16, tb4_17, spLaw_q, spLaw_A, spLaw_pre, spLaw_post, spDSC_q, spDSC_A, spDSC_pre, spDSC_post, spSpanC_q, spSpanC_A, spSpanC_pre, spSpanC_post]; (repeat' (first | apply And.intro | (intro _) | omega | assumption | with_reducible rfl)); all_goals (first | rfl)), ?_⟩
    rintro ⟨a, c⟩ hinv
    try dsimp only at hinv
    simp (config := { maxSteps := 1000000 }) only [go_sem, ↓ifP_true, ↓ifP_false, ↓ifP_not, Nat.reduceLT, Nat.reduceAdd, Nat.reduceBEq, Nat.reduceSub, Nat.reduceLeDiff, Nat.reduceEqDiff, Nat.reduceMul, Int.reduceToNat, Int.reduceEq, Int.reduceLT, Int.reduceLE, Int.reduceAdd, Int.reduceSub, Int.reduceMul, reduceCtorEq, cond_true, cond_false, forall_eq', forall_eq, forall_const, implies_true, if_true, if_false, exists_eq_left', exists_eq', exists_eq, ne_eq, Try.f4, tb4_15, tb4_16, tb4_17, spLaw_q, spLaw_A, spLaw_pre, spLaw_post, spDSC_q, spDSC_A, spDSC_pre, spDSC_post, spSpanC_q, spSpanC_A, spSpanC_pre, spSpanC_post]
    have hB := sums_bd hq.1 hq.2.1 c.toNat
    repeat' (first | apply And.intro | (intro _) | omega | assumption | with_reducible rfl)
  any_goals
    refine loopS (α := Int × Int) false [0, 1, 4, 5, 6, 7, 8, 9, 10, 11, 12, 13, 14, 15, 16, 17, 18, 19, 20, 21, 22, 23, 24, 25, 26, 27, 28, 29, 30, 31, 32, 33, 34, 35, 36, 37, 38, 39, 40, 41, 42, 43, 44, 45, 46, 47, 48, 49, 50, 51, 52, 53, 54, 55, 56, 57, 58, 59, 60, 61] (fun σ => []) (fun σ x => [(6, I x.1), (8, I x.2)]) (fun σ x => []) (fun (a, i) => 0) (fun σ => (gI (σ.get 6), gI (σ.get 8))) (fun σ τ => []) (fun (a, i) => (0 ≤ i ∧ i ≤ q.length) ∧ a = lenS q - lenS (q.take i.toNat)) (fun (a, i) => (q.length - i).toNat) ⟨by (simp (config := { maxSteps := 1000000 }) only [go_sem, ↓ifP_true, ↓ifP_false, ↓ifP_not, Nat.reduceLT, Nat.reduceAdd, Nat.reduceBEq, Nat.reduceSub, Nat.reduceLeDiff, Nat.reduceEqDiff, Nat.reduceMul, Int.reduceToNat, Int.reduceEq, Int.reduceLT, Int.reduceLE, Int.reduceAdd, Int.reduceSub, Int.reduceMul, reduceCtorEq, cond_true, cond_false, forall_eq', forall_eq, forall_const, implies_true, if_true, if_false, exists_eq_left', exists_eq', exists_eq, ne_eq, Try.f4, tb4_15, tb4_16, tb4_17, spLaw_q, spLaw_A, spLaw_pre, spLaw_post, spDSC_q, spDSC_A, spDSC_pre, spDSC_post, spSpanC_q, spSpanC_A, spSpanC_pre, spSpanC_post]; (repeat' (first | apply And.intro | (intro _) | omega | assumption | with_reducible rfl)); all_goals (first | (rw [hinv.2, show c.toNat = 12 by omega, ovls_sum hq.2.1]; simp [lenS]))), ?_⟩
    rintro ⟨a, i⟩ hinv
    try dsimp only at hinv
    rcases elemAt q i (by omega) with ⟨hlt, p, hk⟩ | hlt
    all_goals (first | ((have hlt2 := of_eq_true hlt); (have hp := okS_at hq.2.1 hk); all_goals simp (config := { maxSteps := 1000000 }) only [go_sem, ↓ifP_true, ↓ifP_false, ↓ifP_not, Nat.reduceLT, Nat.reduceAdd, Nat.reduceBEq, Nat.reduceSub, Nat.reduceLeDiff, Nat.reduceEqDiff, Nat.reduceMul, Int.reduceToNat, Int.reduceEq, Int.reduceLT, Int.reduceLE, Int.reduceAdd, Int.reduceSub, Int.reduceMul, reduceCtorEq, cond_true, cond_false, forall_eq', forall_eq, forall_const, implies_true, if_true, if_false, exists_eq_left', exists_eq', exists_eq, ne_eq, Try.f4, tb4_15, tb4_16, tb4_17, spLaw_q, spLaw_A, spLaw_pre, spLaw_post, spDSC_q, spDSC_A, spDSC_pre, spDSC_post, spSpanC_q, spSpanC_A, spSpanC_pre, spSpanC_post, hlt, hk]) | (have hlt2 := of_eq_false hlt; simp (config := { maxSteps := 1000000 }) only [go_sem, ↓ifP_true, ↓ifP_false, ↓ifP_not, Nat.reduceLT, Nat.reduceAdd, Nat.reduceBEq, Nat.reduceSub, Nat.reduceLeDiff, Nat.reduceEqDiff, Nat.reduceMul, Int.reduceToNat, Int.reduceEq, Int.reduceLT, Int.reduceLE, Int.reduceAdd, Int.reduceSub, Int.reduceMul, reduceCtorEq, cond_true, cond_false, forall_eq', forall_eq, forall_const, implies_true, if_true, if_false, exists_eq_left', exists_eq', exists_eq, ne_eq, Try.f4, tb4_15, tb4_16, tb4_17, spLaw_q, spLaw_A, spLaw_pre, spLaw_post, spDSC_q, spDSC_A, spDSC_pre, spDSC_post, spSpanC_q, spSpanC_A, spSpanC_pre, spSpanC_post, hlt]))
    all_goals
    repeat' (first | apply And.intro | (intro _) | omega | assumption | with_reducible rfl)
  all_goals (first | ((have hs := span_val hq.1 hq.2.1 (c := c) (by omega) (by omega); have h9 := ovls_bd c hq.2.1; omega); done) | ((rw [hinv.2, span_val hq.1 hq.2.1 (by omega) (by omega), sumN_step _ hinv.1.1, Int.toNat_of_nonneg hinv.1.1]); done) | ((have h1 := lenS_bd hq.2.1; have h2 := lenS_bd (q := q.take i.toNat) (all_take hq.2.1); rw [List.length_take] at h2; omega); done) | ((rw [takeN hk hinv.1.1, lenS_snoc, hinv.2]; omega); done) | ((rw [hinv.2, takeA (by omega)]; omega); done))
theorem sat_laws_FnSpanCoverSum : Sat Try.prog rt0 4 (wkIn spLaw) := sat_in sat_laws_FnSpanCoverSum_0
end Go.Proofs.Ytjjmjidchehffaa
