/- Contracts of functions of the program vectorraster, each proved for all states that fit its description. No conditions. -/
import Derived.Test.YtcejoknapbhloaaP6L32
set_option maxRecDepth 100000
set_option linter.unusedSimpArgs false
set_option linter.unusedVariables false
namespace Go.Proofs.Ytcejoknapbhloaa
open Go Go.VE
theorem wnd_fin {L : List (List Pt)} {w c n i : Int} (hv : vRings L = true) (hw1 : ¬ w < 0) (hw2 : ¬ 48 ≤ w) (hc : 0 ≤ c) (hc2 : c < 48) (hn : n = stepsTo ((crV L w).take i.toNat) c) (hi : ¬ i < ((crV L w).length : Int)) (h : ¬ n = if (vRings L && isU (4 * c + 2) && isU (4 * w + 2)) = true then wind L (4 * c + 2) (4 * w + 2) else 0) : False := by
  have ux : isU (4 * c + 2) = true := by rw [isU_iff]; omega
  have uy : isU (4 * w + 2) = true := by rw [isU_iff]; omega
  rw [List.take_of_length_le (by omega), crV_yes hv ⟨by omega, by omega⟩, steps_wind hc hc2] at hn
  simp only [hv, ux, uy, Bool.and_self, if_true] at h
  rw [Int.add_comm (4 * c) 2, Int.add_comm (4 * w) 2] at h
  exact h hn
def tb5 : Nat → Option VE.Spec := tabOf [(10, wkIn spDCR), (11, wkIn spCrsOf), (12, wkIn spEqX), (13, wkIn spCrsOf), (15, wkIn spVRings), (16, wkIn spWAt)]
theorem tb5_10 : tb5 10 = some (wkIn spDCR) := rfl
theorem tb5_11 : tb5 11 = some (wkIn spCrsOf) := rfl
theorem tb5_12 : tb5 12 = some (wkIn spEqX) := rfl
theorem tb5_13 : tb5 13 = some (wkIn spCrsOf) := rfl
theorem tb5_15 : tb5 15 = some (wkIn spVRings) := rfl
theorem tb5_16 : tb5 16 = some (wkIn spWAt) := rfl
theorem tb5_ok : TabOK Try.prog rt0 tb5 := (tabOf_cons (by kernel_rfl) sat_spec_DrawCrossesOf (tabOf_cons (by kernel_rfl) sat_impl_CrossesOf (tabOf_cons (by kernel_rfl) sat_laws_equalCrosses (tabOf_cons (by kernel_rfl) sat_spec_CrossesOf (tabOf_cons (by kernel_rfl) sat_impl_ValidRings (tabOf_cons (by kernel_rfl) sat_impl_WindingAt tabOf_nil))))))
set_option maxHeartbeats 4000000 in
theorem sat_laws_FnCrossesOfWinding_0 : Sat Try.prog rt0 5 spLaw := by
  refine fn_sat hm ttok (tab := tb5) tb5_ok Try.func5 (c := Try.f5.body.getD .skip) (by kernel_rfl) (ts := [.tmp 2]) (by kernel_rfl) Try.ntmps5 (sq := fun _ => true) (by kernel_rfl) ?_
  intro args ins pk hpre0 hpk
  obtain ⟨rfl, hpre0⟩ := hpre0
  obtain ⟨code, rfl, hpre, hdec⟩ := famPre_ex hpre0
  clear hpre0 hdec
  try simp only [spLaw_pre] at hpre
  replace hpk : pk + 100000 ≤ pickLimit := hpk
  refine ⟨Nat.le_of_ble_eq_true rfl, ?_⟩
  simp (config := { maxSteps := 1000000 }) only [go_sem, ↓ifP_true, ↓ifP_false, ↓ifP_not, Nat.reduceLT, Nat.reduceAdd, Nat.reduceBEq, Nat.reduceSub, Nat.reduceLeDiff, Nat.reduceEqDiff, Nat.reduceMul, Int.reduceToNat, Int.reduceEq, Int.reduceLT, Int.reduceLE, Int.reduceAdd, Int.reduceSub, Int.reduceMul, reduceCtorEq, cond_true, cond_false, forall_eq', forall_eq, forall_const, implies_true, if_true, if_false, exists_eq_left', exists_eq', exists_eq, ne_eq, Try.f5, tb5_10, tb5_11, tb5_12, tb5_13, tb5_15, tb5_16, spLaw_q, spLaw_A, spLaw_pre, spLaw_post, spDCR_q, spDCR_A, spDCR_pre, spDCR_post, spCrsOf_q, spCrsOf_A, spCrsOf_pre, spCrsOf_post, spEqX_q, spEqX_A, spEqX_pre, spEqX_post, spVRings_q, spVRings_A, spVRings_pre, spVRings_post, spWAt_q, spWAt_A, spWAt_pre, spWAt_post]
  repeat' (first | apply And.intro | (intro _) | omega | assumption | with_reducible rfl)
  any_goals
    rename_i L w hL1 hL2 hL3 hv hw1 hw2
    refine loopS (α := Int) false [0, 1, 2, 6, 7, 8, 9, 10, 11, 12, 13, 14, 15, 16, 17, 18, 19, 20, 21, 22, 23, 24, 25, 26, 27, 28, 29, 30, 31, 32, 33, 34, 35, 36, 37, 38, 39, 40, 41, 42, 43, 44, 45, 46, 47, 48, 49, 50, 51, 52, 53, 54, 55, 56, 57, 58, 59, 60, 61, 62, 63, 64, 65, 66, 67, 68, 69, 70, 71, 72, 73, 74, 75, 76, 77] (fun σ => []) (fun σ x => [(6, I x)]) (fun σ x => []) (fun c => 0) (fun σ => gI (σ.get 6)) (fun σ τ => []) (fun c => (0 ≤ c ∧ c ≤ 48)) (fun c => (48 - c).toNat) ⟨by (simp (config := { maxSteps := 1000000 }) only [go_sem, ↓ifP_true, ↓ifP_false, ↓ifP_not, Nat.reduceLT, Nat.reduceAdd, Nat.reduceBEq, Nat.reduceSub, Nat.reduceLeDiff, Nat.reduceEqDiff, Nat.reduceMul, Int.reduceToNat, Int.reduceEq, Int.reduceLT, Int.reduceLE, Int.reduceAdd, Int.reduceSub, Int.reduceMul, reduceCtorEq, cond_true, cond_false, forall_eq', forall_eq, forall_const, implies_true, if_true, if_false, exists_eq_left', exists_eq', exists_eq, ne_eq, Try.f5, tb5_10, tb5_11, tb5_12, tb5_13, tb5_15, tb5_16, spLaw_q, spLaw_A, spLaw_pre, spLaw_post, spDCR_q, spDCR_A, spDCR_pre, spDCR_post, spCrsOf_q, spCrsOf_A, spCrsOf_pre, spCrsOf_post, spEqX_q, spEqX_A, spEqX_pre, spEqX_post, spVRings_q, spVRings_A, spVRings_pre, spVRings_post, spWAt_q, spWAt_A, spWAt_pre, spWAt_post]; (repeat' (first | apply And.intro | (intro _) | omega | assumption | with_reducible rfl)); all_goals (first | rfl)), ?_⟩
    rintro c hinv
    try dsimp only at hinv
    simp (config := { maxSteps := 1000000 }) only [go_sem, ↓ifP_true, ↓ifP_false, ↓ifP_not, Nat.reduceLT, Nat.reduceAdd, Nat.reduceBEq, Nat.reduceSub, Nat.reduceLeDiff, Nat.reduceEqDiff, Nat.reduceMul, Int.reduceToNat, Int.reduceEq, Int.reduceLT, Int.reduceLE, Int.reduceAdd, Int.reduceSub, Int.reduceMul, reduceCtorEq, cond_true, cond_false, forall_eq', forall_eq, forall_const, implies_true, if_true, if_false, exists_eq_left', exists_eq', exists_eq, ne_eq, Try.f5, tb5_10, tb5_11, tb5_12, tb5_13, tb5_15, tb5_16, spLaw_q, spLaw_A, spLaw_pre, spLaw_post, spDCR_q, spDCR_A, spDCR_pre, spDCR_post, spCrsOf_q, spCrsOf_A, spCrsOf_pre, spCrsOf_post, spEqX_q, spEqX_A, spEqX_pre, spEqX_post, spVRings_q, spVRings_A, spVRings_pre, spVRings_post, spWAt_q, spWAt_A, spWAt_pre, spWAt_post]
    repeat' (first | apply And.intro | (intro _) | omega | assumption | with_reducible rfl)
  any_goals
    have hcc := hinv
    refine loopS (α := Int × Int) false [0, 1, 7, 8, 9, 10, 11, 12, 13, 14, 15, 16, 17, 18, 19, 20, 21, 22, 23, 24, 25, 26, 27, 28, 29, 30, 31, 32, 33, 34, 35, 36, 37, 38, 39, 40, 41, 42, 43, 44, 45, 46, 47, 48, 49, 50, 51, 52, 53, 54, 55, 56, 57, 58, 59, 60, 61, 62, 63, 64, 65, 66, 67, 77] (fun σ => []) (fun σ x => [(7, I x.1), (8, I x.2)]) (fun σ x => []) (fun (n, i) => 0) (fun σ => (gI (σ.get 7), gI (σ.get 8))) (fun σ τ => []) (fun (n, i) => (0 ≤ i ∧ i ≤ (crV L w).length) ∧ n = stepsTo ((crV L w).take i.toNat) c) (fun (n, i) => ((crV L w).length - i).toNat) ⟨by (simp (config := { maxSteps := 1000000 }) only [go_sem, ↓ifP_true, ↓ifP_false, ↓ifP_not, Nat.reduceLT, Nat.reduceAdd, Nat.reduceBEq, Nat.reduceSub, Nat.reduceLeDiff, Nat.reduceEqDiff, Nat.reduceMul, Int.reduceToNat, Int.reduceEq, Int.reduceLT, Int.reduceLE, Int.reduceAdd, Int.reduceSub, Int.reduceMul, reduceCtorEq, cond_true, cond_false, forall_eq', forall_eq, forall_const, implies_true, if_true, if_false, exists_eq_left', exists_eq', exists_eq, ne_eq, Try.f5, tb5_10, tb5_11, tb5_12, tb5_13, tb5_15, tb5_16, spLaw_q, spLaw_A, spLaw_pre, spLaw_post, spDCR_q, spDCR_A, spDCR_pre, spDCR_post, spCrsOf_q, spCrsOf_A, spCrsOf_pre, spCrsOf_post, spEqX_q, spEqX_A, spEqX_pre, spEqX_post, spVRings_q, spVRings_A, spVRings_pre, spVRings_post, spWAt_q, spWAt_A, spWAt_pre, spWAt_post]; (repeat' (first | apply And.intro | (intro _) | omega | assumption | with_reducible rfl)); all_goals (first | rfl)), ?_⟩
    rintro ⟨n, i⟩ hinv
    try dsimp only at hinv
    rcases elemAt (crV L w) i (by omega) with ⟨hlt, x, hk⟩ | hlt
    all_goals (first | ((have hlt2 := of_eq_true hlt); (have hB := @toS_bd L w c i.toNat); (have hX := crV_at hk); (have hCl := crV_len L w); all_goals simp (config := { maxSteps := 1000000 }) only [go_sem, ↓ifP_true, ↓ifP_false, ↓ifP_not, Nat.reduceLT, Nat.reduceAdd, Nat.reduceBEq, Nat.reduceSub, Nat.reduceLeDiff, Nat.reduceEqDiff, Nat.reduceMul, Int.reduceToNat, Int.reduceEq, Int.reduceLT, Int.reduceLE, Int.reduceAdd, Int.reduceSub, Int.reduceMul, reduceCtorEq, cond_true, cond_false, forall_eq', forall_eq, forall_const, implies_true, if_true, if_false, exists_eq_left', exists_eq', exists_eq, ne_eq, Try.f5, tb5_10, tb5_11, tb5_12, tb5_13, tb5_15, tb5_16, spLaw_q, spLaw_A, spLaw_pre, spLaw_post, spDCR_q, spDCR_A, spDCR_pre, spDCR_post, spCrsOf_q, spCrsOf_A, spCrsOf_pre, spCrsOf_post, spEqX_q, spEqX_A, spEqX_pre, spEqX_post, spVRings_q, spVRings_A, spVRings_pre, spVRings_post, spWAt_q, spWAt_A, spWAt_pre, spWAt_post, hlt, hk]) | (have hlt2 := of_eq_false hlt; simp (config := { maxSteps := 1000000 }) only [go_sem, ↓ifP_true, ↓ifP_false, ↓ifP_not, Nat.reduceLT, Nat.reduceAdd, Nat.reduceBEq, Nat.reduceSub, Nat.reduceLeDiff, Nat.reduceEqDiff, Nat.reduceMul, Int.reduceToNat, Int.reduceEq, Int.reduceLT, Int.reduceLE, Int.reduceAdd, Int.reduceSub, Int.reduceMul, reduceCtorEq, cond_true, cond_false, forall_eq', forall_eq, forall_const, implies_true, if_true, if_false, exists_eq_left', exists_eq', exists_eq, ne_eq, Try.f5, tb5_10, tb5_11, tb5_12, tb5_13, tb5_15, tb5_16, spLaw_q, spLaw_A, spLaw_pre, spLaw_post, spDCR_q, spDCR_A, spDCR_pre, spDCR_post, spCrsOf_q, spCrsOf_A, spCrsOf_pre, spCrsOf_post, spEqX_q, spEqX_A, spEqX_pre, spEqX_post, spVRings_q, spVRings_A, spVRings_pre, spVRings_post, spWAt_q, spWAt_A, spWAt_pre, spWAt_post, hlt]))
    all_goals
    repeat' (first | apply And.intro | (intro _) | omega | assumption | with_reducible rfl)
  all_goals (first | (exact crV_le _ _; done) | (omega; done) | ((rw [toS_step hk hinv.1.1, if_pos ‹x.a ≤ c›, hinv.2]); done) | ((rw [toS_step hk hinv.1.1, if_neg ‹¬ x.a ≤ c›, hinv.2, Int.add_zero]); done) | (exact wnd_fin hv hw1 hw2 hcc.1 ‹c < 48› hinv.2 hlt2 ‹_›; done) | (skip; done))
theorem sat_laws_FnCrossesOfWinding : Sat Try.prog rt0 5 (wkIn spLaw) := sat_in sat_laws_FnCrossesOfWinding_0
end Go.Proofs.Ytcejoknapbhloaa
