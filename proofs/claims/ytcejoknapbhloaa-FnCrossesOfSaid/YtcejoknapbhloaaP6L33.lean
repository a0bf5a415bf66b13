/- Contracts of functions of the program vectorraster, each proved for all states that fit its description. No conditions. -/
import Derived.Test.YtcejoknapbhloaaP6L32
set_option maxRecDepth 100000
set_option linter.unusedSimpArgs false
set_option linter.unusedVariables false
namespace Go.Proofs.Ytcejoknapbhloaa
open Go Go.VE
def tb3 : Nat → Option VE.Spec := tabOf [(10, wkIn spDCR), (11, wkIn spCrsOf), (12, wkIn spEqX), (13, wkIn spCrsOf)]
theorem tb3_10 : tb3 10 = some (wkIn spDCR) := rfl
theorem tb3_11 : tb3 11 = some (wkIn spCrsOf) := rfl
theorem tb3_12 : tb3 12 = some (wkIn spEqX) := rfl
theorem tb3_13 : tb3 13 = some (wkIn spCrsOf) := rfl
theorem tb3_ok : TabOK Try.prog rt0 tb3 := (tabOf_cons (by kernel_rfl) sat_spec_DrawCrossesOf (tabOf_cons (by kernel_rfl) sat_impl_CrossesOf (tabOf_cons (by kernel_rfl) sat_laws_equalCrosses (tabOf_cons (by kernel_rfl) sat_spec_CrossesOf tabOf_nil))))
set_option maxHeartbeats 4000000 in
theorem sat_laws_FnCrossesOf_0 : Sat Try.prog rt0 3 spLaw := by
  refine fn_sat hm ttok (tab := tb3) tb3_ok Try.func3 (c := Try.f3.body.getD .skip) (by kernel_rfl) (ts := [.tmp 2]) (by kernel_rfl) Try.ntmps3 (sq := fun _ => true) (by kernel_rfl) ?_
  intro args ins pk hpre0 hpk
  obtain ⟨rfl, hpre0⟩ := hpre0
  obtain ⟨code, rfl, hpre, hdec⟩ := famPre_ex hpre0
  clear hpre0 hdec
  try simp only [spLaw_pre] at hpre
  replace hpk : pk + 100000 ≤ pickLimit := hpk
  refine ⟨Nat.le_of_ble_eq_true rfl, ?_⟩
  simp (config := { maxSteps := 1000000 }) only [go_sem, ↓ifP_true, ↓ifP_false, ↓ifP_not, Nat.reduceLT, Nat.reduceAdd, Nat.reduceBEq, Nat.reduceSub, Nat.reduceLeDiff, Nat.reduceEqDiff, Nat.reduceMul, Int.reduceToNat, Int.reduceEq, Int.reduceLT, Int.reduceLE, Int.reduceAdd, Int.reduceSub, Int.reduceMul, reduceCtorEq, cond_true, cond_false, forall_eq', forall_eq, forall_const, implies_true, if_true, if_false, exists_eq_left', exists_eq', exists_eq, ne_eq, Try.f3, tb3_10, tb3_11, tb3_12, tb3_13, spLaw_q, spLaw_A, spLaw_pre, spLaw_post, spDCR_q, spDCR_A, spDCR_pre, spDCR_post, spCrsOf_q, spCrsOf_A, spCrsOf_pre, spCrsOf_post, spEqX_q, spEqX_A, spEqX_pre, spEqX_post]
  repeat' (first | apply And.intro | (intro _) | omega | assumption | with_reducible rfl)
  any_goals
    rename_i L w hL1 hL2 hL3
    refine loopS (α := Int × Int) false [0, 1, 2, 3, 4, 6, 7, 8, 9, 10, 11, 12, 13, 14, 15, 16, 17, 18, 19, 20, 21, 22, 23, 24, 25, 26, 27, 28, 29, 30, 31, 32, 33, 34, 35, 36, 37, 38, 39, 40, 41, 42, 43, 44, 45, 46, 47, 48, 49, 50, 51, 52, 53] (fun σ => []) (fun σ x => [(6, I x.1), (7, I x.2)]) (fun σ x => []) (fun (n, i) => 0) (fun σ => (gI (σ.get 6), gI (σ.get 7))) (fun σ τ => []) (fun (n, i) => (0 ≤ i ∧ i ≤ (crV L w).length) ∧ n = (((crV L w).take i.toNat).map (·.s)).sum) (fun (n, i) => ((crV L w).length - i).toNat) ⟨by (simp (config := { maxSteps := 1000000 }) only [go_sem, ↓ifP_true, ↓ifP_false, ↓ifP_not, Nat.reduceLT, Nat.reduceAdd, Nat.reduceBEq, Nat.reduceSub, Nat.reduceLeDiff, Nat.reduceEqDiff, Nat.reduceMul, Int.reduceToNat, Int.reduceEq, Int.reduceLT, Int.reduceLE, Int.reduceAdd, Int.reduceSub, Int.reduceMul, reduceCtorEq, cond_true, cond_false, forall_eq', forall_eq, forall_const, implies_true, if_true, if_false, exists_eq_left', exists_eq', exists_eq, ne_eq, Try.f3, tb3_10, tb3_11, tb3_12, tb3_13, spLaw_q, spLaw_A, spLaw_pre, spLaw_post, spDCR_q, spDCR_A, spDCR_pre, spDCR_post, spCrsOf_q, spCrsOf_A, spCrsOf_pre, spCrsOf_post, spEqX_q, spEqX_A, spEqX_pre, spEqX_post]; (repeat' (first | apply And.intro | (intro _) | omega | assumption | with_reducible rfl)); all_goals (first | rfl)), ?_⟩
    rintro ⟨n, i⟩ hinv
    try dsimp only at hinv
    rcases elemAt (crV L w) i (by omega) with ⟨hlt, x, hk⟩ | hlt
    all_goals (first | ((have hlt2 := of_eq_true hlt); (have hB := tk_bd L w i.toNat); (have hX := crV_at hk); (have hCl := crV_len L w); all_goals simp (config := { maxSteps := 1000000 }) only [go_sem, ↓ifP_true, ↓ifP_false, ↓ifP_not, Nat.reduceLT, Nat.reduceAdd, Nat.reduceBEq, Nat.reduceSub, Nat.reduceLeDiff, Nat.reduceEqDiff, Nat.reduceMul, Int.reduceToNat, Int.reduceEq, Int.reduceLT, Int.reduceLE, Int.reduceAdd, Int.reduceSub, Int.reduceMul, reduceCtorEq, cond_true, cond_false, forall_eq', forall_eq, forall_const, implies_true, if_true, if_false, exists_eq_left', exists_eq', exists_eq, ne_eq, Try.f3, tb3_10, tb3_11, tb3_12, tb3_13, spLaw_q, spLaw_A, spLaw_pre, spLaw_post, spDCR_q, spDCR_A, spDCR_pre, spDCR_post, spCrsOf_q, spCrsOf_A, spCrsOf_pre, spCrsOf_post, spEqX_q, spEqX_A, spEqX_pre, spEqX_post, hlt, hk]) | (have hlt2 := of_eq_false hlt; simp (config := { maxSteps := 1000000 }) only [go_sem, ↓ifP_true, ↓ifP_false, ↓ifP_not, Nat.reduceLT, Nat.reduceAdd, Nat.reduceBEq, Nat.reduceSub, Nat.reduceLeDiff, Nat.reduceEqDiff, Nat.reduceMul, Int.reduceToNat, Int.reduceEq, Int.reduceLT, Int.reduceLE, Int.reduceAdd, Int.reduceSub, Int.reduceMul, reduceCtorEq, cond_true, cond_false, forall_eq', forall_eq, forall_const, implies_true, if_true, if_false, exists_eq_left', exists_eq', exists_eq, ne_eq, Try.f3, tb3_10, tb3_11, tb3_12, tb3_13, spLaw_q, spLaw_A, spLaw_pre, spLaw_post, spDCR_q, spDCR_A, spDCR_pre, spDCR_post, spCrsOf_q, spCrsOf_A, spCrsOf_pre, spCrsOf_post, spEqX_q, spEqX_A, spEqX_pre, spEqX_post, hlt]))
    all_goals
    repeat' (first | apply And.intro | (intro _) | omega | assumption | with_reducible rfl)
  all_goals (first | (exact crV_le _ _; done) | (omega; done) | (exact crV_fall ‹Cross.a _ < Cross.a _› ‹0 < i› (by assumption) (by assumption); done) | ((rw [takeN hk hinv.1.1, List.map_append, List.sum_append, hinv.2]; simp); done) | ((rw [hinv.2, List.take_of_length_le (by omega)]; exact crV_sum _ _); done) | (skip; done))
theorem sat_laws_FnCrossesOf : Sat Try.prog rt0 3 (wkIn spLaw) := sat_in sat_laws_FnCrossesOf_0
end Go.Proofs.Ytcejoknapbhloaa
