/- Contracts of functions of the program vectorraster, each proved for all states that fit its description. No conditions. -/
import Derived.Test.YtdkfamajaopgoaaPM
set_option maxRecDepth 100000
set_option linter.unusedSimpArgs false
set_option linter.unusedVariables false
namespace Go.Proofs.Ytdkfamajaopgoaa
open Go Go.VE
theorem maskV_part {L : List (List Pt)} {rl w h : Int} (H : okMask L rl w h = true) (h1 : ¬ h = 1) : (maskV L rl w h).take (w * (h - 1)).toNat = maskV L rl w (h - 1) := by
  obtain ⟨k1, k2, k3, k4⟩ := okMask_iff.1 H
  have H2 : okMask L rl w (h - 1) = true := okMask_iff.2 ⟨k1, k2, k3, by omega⟩
  have e := maskB_step L rl ⟨0, 0, w, h⟩ (i := h - 1) (by show (0 : Int) ≤ h - 1; omega)
  rw [show h - 1 + 1 = h by omega] at e
  have hl := maskB_len L rl ⟨0, 0, w, h⟩ (h - 1)
  have hn : (w * (h - 1)).toNat = (maskB L rl ⟨0, 0, w, h⟩ (h - 1)).length := by
    rw [hl]
    show (w * (h - 1)).toNat = (h - 1 - 0).toNat * (w - 0).toNat
    have : ((w * (h - 1)).toNat : Int) = (((h - 1 - 0).toNat * (w - 0).toNat : Nat) : Int) := by
      rw [Int.natCast_mul, Int.toNat_of_nonneg (Int.mul_nonneg (by omega) (by omega)), Int.toNat_of_nonneg (by omega), Int.toNat_of_nonneg (by omega), Int.mul_comm]; simp
    omega
  rw [maskV, if_pos H, maskV, if_pos H2, e, hn, List.take_left]
  rfl
theorem mul_rng {w h : Int} (h1 : 1 ≤ w ∧ w ≤ 12) (h2 : 1 ≤ h ∧ h ≤ 12) : 0 ≤ w * (h - 1) ∧ w * (h - 1) ≤ w * h ∧ w * h ≤ 144 := by
  have a := Int.mul_nonneg (show 0 ≤ w by omega) (show 0 ≤ h - 1 by omega)
  have b : w * (h - 1) = w * h - w := by rw [Int.mul_sub, Int.mul_one]
  have c := Int.mul_le_mul h1.2 h2.2 (by omega) (by omega)
  omega
theorem take_le2 (n : Nat) (l : List Int) : (l.take n).length ≤ l.length := by rw [List.length_take]; exact Nat.min_le_right _ _
theorem part_rng {L : List (List Pt)} {rl w h : Int} (hn : ¬ ((maskV L rl w h).length : Int) = 0) : (0 ≤ w * (h - 1) ∧ w * (h - 1) ≤ ((maskV L rl w h).length : Int) ∧ ((maskV L rl w h).length : Int) ≤ 144) ∧ 1 ≤ h ∧ h ≤ 12 := by
  have H := maskV_pos hn
  obtain ⟨k1, k2, k3, k4⟩ := okMask_iff.1 H
  have := mul_rng k3 k4
  rw [maskV_len H]
  omega
def tb4 : Nat → Option VE.Spec := tabOf [(22, wkIn spDMO), (23, wkIn spMask), (25, wkIn spMask), (24, wkIn spEqI)]
theorem tb4_22 : tb4 22 = some (wkIn spDMO) := rfl
theorem tb4_23 : tb4 23 = some (wkIn spMask) := rfl
theorem tb4_25 : tb4 25 = some (wkIn spMask) := rfl
theorem tb4_24 : tb4 24 = some (wkIn spEqI) := rfl
theorem tb4_ok : TabOK Try.prog rt0 tb4 := (tabOf_cons (by kernel_rfl) sat_spec_DrawMaskOf (tabOf_cons (by kernel_rfl) sat_impl_MaskOf (tabOf_cons (by kernel_rfl) sat_spec_MaskOf (tabOf_cons (by kernel_rfl) sat_laws_equalInts tabOf_nil))))
set_option maxHeartbeats 4000000 in
theorem sat_laws_FnMaskOfPart_0 : Sat Try.prog rt0 4 spLaw := by
  refine fn_sat hm ttok (tab := tb4) tb4_ok Try.func4 (c := Try.f4.body.getD .skip) (by kernel_rfl) (ts := [.tmp 2]) (by kernel_rfl) Try.ntmps4 (sq := fun id => !(id == 7)) (by kernel_rfl) ?_
  intro args ins pk hpre0 hpk
  obtain ⟨rfl, hpre0⟩ := hpre0
  obtain ⟨code, rfl, hpre, hdec⟩ := famPre_ex hpre0
  clear hpre0 hdec
  try simp only [spLaw_pre] at hpre
  replace hpk : pk + 100000 ≤ pickLimit := hpk
  refine ⟨Nat.le_of_ble_eq_true rfl, ?_⟩
  have fold : ∀ (L : List (List Pt)) (rl w h : Int), (if okMask L rl w h = true then maskB L rl ⟨0, 0, w, h⟩ h else []) = maskV L rl w h := fun _ _ _ _ => rfl
  simp (config := { maxSteps := 1000000 }) only [go_sem, ↓ifP_true, ↓ifP_false, ↓ifP_not, Nat.reduceLT, Nat.reduceAdd, Nat.reduceBEq, Nat.reduceSub, Nat.reduceLeDiff, Nat.reduceEqDiff, Nat.reduceMul, Int.reduceToNat, Int.reduceEq, Int.reduceLT, Int.reduceLE, Int.reduceAdd, Int.reduceSub, Int.reduceMul, reduceCtorEq, cond_true, cond_false, forall_eq', forall_eq, forall_const, implies_true, if_true, if_false, exists_eq_left', exists_eq', exists_eq, ne_eq, Try.f4, tb4_22, tb4_23, tb4_25, tb4_24, spLaw_q, spLaw_A, spLaw_pre, spLaw_post, spDMO_q, spDMO_A, spDMO_pre, spDMO_post, spMask_q, spMask_A, spMask_pre, spMask_post, spEqI_q, spEqI_A, spEqI_pre, spEqI_post, fold]
  repeat' (first | apply And.intro | (intro _) | omega | assumption | with_reducible rfl)
  all_goals try (refine drawI (VE.Plan.first 0 (VE.Plan.first 1 (VE.Plan.first 2 (VE.Plan.first 3 (VE.Plan.first 4 (VE.Plan.first 6 (VE.Plan.first 7 (VE.Plan.first 8 (VE.Plan.first 9 (VE.Plan.first 10 (VE.Plan.first 11 (VE.Plan.alt 5 (VE.Plan.alt 12 (VE.Plan.alt 13 VE.Plan.nil VE.Plan.nil) VE.Plan.nil) VE.Plan.nil)))))))))))) (by decide +kernel) ?_; simp (config := { maxSteps := 1000000 }) only [go_sem, ↓ifP_true, ↓ifP_false, ↓ifP_not, Nat.reduceLT, Nat.reduceAdd, Nat.reduceBEq, Nat.reduceSub, Nat.reduceLeDiff, Nat.reduceEqDiff, Nat.reduceMul, Int.reduceToNat, Int.reduceEq, Int.reduceLT, Int.reduceLE, Int.reduceAdd, Int.reduceSub, Int.reduceMul, reduceCtorEq, cond_true, cond_false, forall_eq', forall_eq, forall_const, implies_true, if_true, if_false, exists_eq_left', exists_eq', exists_eq, ne_eq, planW, stepW, Try.f4, tb4_22, tb4_23, tb4_25, tb4_24, spLaw_q, spLaw_A, spLaw_pre, spLaw_post, spDMO_q, spDMO_A, spDMO_pre, spDMO_post, spMask_q, spMask_A, spMask_pre, spMask_post, spEqI_q, spEqI_A, spEqI_pre, spEqI_post, fold]; repeat' (first | apply And.intro | (intro _) | omega | assumption | with_reducible rfl))
  all_goals (first | (exact Nat.le_trans (maskV_le _ _ _ _) (by decide); done) | ((have h9 := part_rng ‹¬ ((maskV _ _ _ _).length : Int) = 0›; omega); done) | (exact Nat.le_trans (take_le2 _ _) (Nat.le_trans (maskV_le _ _ _ _) (by decide)); done) | (exact (maskV_part (maskV_pos ‹_›) ‹_›).symm; done))
theorem sat_laws_FnMaskOfPart : Sat Try.prog rt0 4 (wkIn spLaw) := sat_in sat_laws_FnMaskOfPart_0
end Go.Proofs.Ytdkfamajaopgoaa
