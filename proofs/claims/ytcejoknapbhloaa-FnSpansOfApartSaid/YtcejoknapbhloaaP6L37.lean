/- Contracts of functions of the program vectorraster, each proved for all states that fit its description. No conditions. -/
import Derived.Test.YtcejoknapbhloaaP6L32
set_option maxRecDepth 100000
set_option linter.unusedSimpArgs false
set_option linter.unusedVariables false
namespace Go.Proofs.Ytcejoknapbhloaa
open Go Go.VE
def tb7 : Nat → Option VE.Spec := tabOf [(22, wkIn spDSO), (21, wkIn spSpV), (23, wkIn spEqS), (24, wkIn spSpV)]
theorem tb7_22 : tb7 22 = some (wkIn spDSO) := rfl
theorem tb7_21 : tb7 21 = some (wkIn spSpV) := rfl
theorem tb7_23 : tb7 23 = some (wkIn spEqS) := rfl
theorem tb7_24 : tb7 24 = some (wkIn spSpV) := rfl
theorem tb7_ok : TabOK Try.prog rt0 tb7 := (tabOf_cons (by kernel_rfl) sat_spec_DrawSpansOf (tabOf_cons (by kernel_rfl) sat_impl_SpansOf (tabOf_cons (by kernel_rfl) sat_laws_equalSpans (tabOf_cons (by kernel_rfl) sat_spec_SpansOf tabOf_nil))))
set_option maxHeartbeats 4000000 in
theorem sat_laws_FnSpansOfApart_0 : Sat Try.prog rt0 7 spLaw := by
  refine fn_sat hm ttok (tab := tb7) tb7_ok Try.func7 (c := Try.f7.body.getD .skip) (by kernel_rfl) (ts := [.tmp 2]) (by kernel_rfl) Try.ntmps7 (sq := fun _ => true) (by kernel_rfl) ?_
  intro args ins pk hpre0 hpk
  obtain ⟨rfl, hpre0⟩ := hpre0
  obtain ⟨code, rfl, hpre, hdec⟩ := famPre_ex hpre0
  clear hpre0 hdec
  try simp only [spLaw_pre] at hpre
  replace hpk : pk + 100000 ≤ pickLimit := hpk
  refine ⟨Nat.le_of_ble_eq_true rfl, ?_⟩
  simp (config := { maxSteps := 1000000 }) only [go_sem, ↓ifP_true, ↓ifP_false, ↓ifP_not, Nat.reduceLT, Nat.reduceAdd, Nat.reduceBEq, Nat.reduceSub, Nat.reduceLeDiff, Nat.reduceEqDiff, Nat.reduceMul, Int.reduceToNat, Int.reduceEq, Int.reduceLT, Int.reduceLE, Int.reduceAdd, Int.reduceSub, Int.reduceMul, reduceCtorEq, cond_true, cond_false, forall_eq', forall_eq, forall_const, implies_true, if_true, if_false, exists_eq_left', exists_eq', exists_eq, ne_eq, Try.f7, tb7_22, tb7_21, tb7_23, tb7_24, spLaw_q, spLaw_A, spLaw_pre, spLaw_post, spDSO_q, spDSO_A, spDSO_pre, spDSO_post, spSpV_q, spSpV_A, spSpV_pre, spSpV_post, spEqS_q, spEqS_A, spEqS_pre, spEqS_post]
  repeat' (first | apply And.intro | (intro _) | omega | assumption | with_reducible rfl)
  any_goals
    rename_i L rl w hL1 hL2 hL3
    refine loopS (α := Int) false [0, 1, 2, 3, 4, 5, 7, 8, 9, 10, 11, 12, 13, 14, 15, 16, 17, 18, 19, 20, 21, 22, 23, 24, 25, 26, 27, 28, 29, 30, 31, 32, 33, 34, 35, 36, 37, 38, 39, 40, 41, 42, 43, 44, 45, 46, 47, 48, 49, 50, 51, 52, 53, 54, 55, 56, 57, 58, 59, 60, 61, 62] (fun σ => []) (fun σ x => [(7, I x)]) (fun σ x => []) (fun i => 0) (fun σ => gI (σ.get 7)) (fun σ τ => []) (fun i => (0 ≤ i ∧ i ≤ (spV L rl w).length)) (fun i => ((spV L rl w).length - i).toNat) ⟨by (simp (config := { maxSteps := 1000000 }) only [go_sem, ↓ifP_true, ↓ifP_false, ↓ifP_not, Nat.reduceLT, Nat.reduceAdd, Nat.reduceBEq, Nat.reduceSub, Nat.reduceLeDiff, Nat.reduceEqDiff, Nat.reduceMul, Int.reduceToNat, Int.reduceEq, Int.reduceLT, Int.reduceLE, Int.reduceAdd, Int.reduceSub, Int.reduceMul, reduceCtorEq, cond_true, cond_false, forall_eq', forall_eq, forall_const, implies_true, if_true, if_false, exists_eq_left', exists_eq', exists_eq, ne_eq, Try.f7, tb7_22, tb7_21, tb7_23, tb7_24, spLaw_q, spLaw_A, spLaw_pre, spLaw_post, spDSO_q, spDSO_A, spDSO_pre, spDSO_post, spSpV_q, spSpV_A, spSpV_pre, spSpV_post, spEqS_q, spEqS_A, spEqS_pre, spEqS_post]; (repeat' (first | apply And.intro | (intro _) | omega | assumption | with_reducible rfl)); all_goals (first | rfl)), ?_⟩
    rintro i hinv
    try dsimp only at hinv
    rcases elemAt (spV L rl w) i (by omega) with ⟨hlt, x, hk⟩ | hlt
    all_goals (first | ((have hlt2 := of_eq_true hlt); (have hX := spV_at hk); (have hCl := spV_len L rl w); all_goals simp (config := { maxSteps := 1000000 }) only [go_sem, ↓ifP_true, ↓ifP_false, ↓ifP_not, Nat.reduceLT, Nat.reduceAdd, Nat.reduceBEq, Nat.reduceSub, Nat.reduceLeDiff, Nat.reduceEqDiff, Nat.reduceMul, Int.reduceToNat, Int.reduceEq, Int.reduceLT, Int.reduceLE, Int.reduceAdd, Int.reduceSub, Int.reduceMul, reduceCtorEq, cond_true, cond_false, forall_eq', forall_eq, forall_const, implies_true, if_true, if_false, exists_eq_left', exists_eq', exists_eq, ne_eq, Try.f7, tb7_22, tb7_21, tb7_23, tb7_24, spLaw_q, spLaw_A, spLaw_pre, spLaw_post, spDSO_q, spDSO_A, spDSO_pre, spDSO_post, spSpV_q, spSpV_A, spSpV_pre, spSpV_post, spEqS_q, spEqS_A, spEqS_pre, spEqS_post, hlt, hk]) | (have hlt2 := of_eq_false hlt; simp (config := { maxSteps := 1000000 }) only [go_sem, ↓ifP_true, ↓ifP_false, ↓ifP_not, Nat.reduceLT, Nat.reduceAdd, Nat.reduceBEq, Nat.reduceSub, Nat.reduceLeDiff, Nat.reduceEqDiff, Nat.reduceMul, Int.reduceToNat, Int.reduceEq, Int.reduceLT, Int.reduceLE, Int.reduceAdd, Int.reduceSub, Int.reduceMul, reduceCtorEq, cond_true, cond_false, forall_eq', forall_eq, forall_const, implies_true, if_true, if_false, exists_eq_left', exists_eq', exists_eq, ne_eq, Try.f7, tb7_22, tb7_21, tb7_23, tb7_24, spLaw_q, spLaw_A, spLaw_pre, spLaw_post, spDSO_q, spDSO_A, spDSO_pre, spDSO_post, spSpV_q, spSpV_A, spSpV_pre, spSpV_post, spEqS_q, spEqS_A, spEqS_pre, spEqS_post, hlt]))
    all_goals
    repeat' (first | apply And.intro | (intro _) | omega | assumption | with_reducible rfl)
  all_goals (first | (exact spV_le _ _ _; done) | (omega; done) | (exact spV_fall ‹Span.f _ ≤ Span.t _› ‹0 < i› (by assumption) (by assumption); done) | (skip; done))
theorem sat_laws_FnSpansOfApart : Sat Try.prog rt0 7 (wkIn spLaw) := sat_in sat_laws_FnSpansOfApart_0
end Go.Proofs.Ytcejoknapbhloaa
