/- Contracts of functions of the program vectorraster, each proved for all states that fit its description. No conditions. -/
import Derived.Test.YtdkfamajaopgoaaPM
set_option maxRecDepth 100000
set_option linter.unusedSimpArgs false
set_option linter.unusedVariables false
namespace Go.Proofs.Ytdkfamajaopgoaa
open Go Go.VE
theorem mask_cov {L : List (List Pt)} {rl w h i m : Int} (H : okMask L rl w h = true) (h0 : 0 ≤ i) (hi : i < ((maskV L rl w h).length : Int)) (hk : (maskV L rl w h)[i.toNat]? = some m) : m = if okCov L rl (i.tmod w) (i.tdiv w) = true then cov L rl (i.tmod w) (i.tdiv w) else -1 := by
  obtain ⟨h1, h2⟩ := maskV_get H h0 hi
  rw [Int.tmod_eq_emod_of_nonneg h0, Int.tdiv_eq_ediv_of_nonneg h0, if_pos h2]
  rw [hk] at h1
  exact Option.some.inj h1
def tb5 : Nat → Option VE.Spec := tabOf [(22, wkIn spDMO), (23, wkIn spMask), (25, wkIn spMask), (24, wkIn spEqI), (26, wkIn spCovOf)]
theorem tb5_22 : tb5 22 = some (wkIn spDMO) := rfl
theorem tb5_23 : tb5 23 = some (wkIn spMask) := rfl
theorem tb5_25 : tb5 25 = some (wkIn spMask) := rfl
theorem tb5_24 : tb5 24 = some (wkIn spEqI) := rfl
theorem tb5_26 : tb5 26 = some (wkIn spCovOf) := rfl
theorem tb5_ok : TabOK Try.prog rt0 tb5 := (tabOf_cons (by kernel_rfl) sat_spec_DrawMaskOf (tabOf_cons (by kernel_rfl) sat_impl_MaskOf (tabOf_cons (by kernel_rfl) sat_spec_MaskOf (tabOf_cons (by kernel_rfl) sat_laws_equalInts (tabOf_cons (by kernel_rfl) sat_impl_CoverOf tabOf_nil)))))
set_option maxHeartbeats 4000000 in
theorem sat_laws_FnMaskOf_0 : Sat Try.prog rt0 5 spLaw := by
  refine fn_sat hm ttok (tab := tb5) tb5_ok Try.func5 (c := Try.f5.body.getD .skip) (by kernel_rfl) (ts := [.tmp 2]) (by kernel_rfl) Try.ntmps5 (sq := fun _ => true) (by kernel_rfl) ?_
  intro args ins pk hpre0 hpk
  obtain ⟨rfl, hpre0⟩ := hpre0
  obtain ⟨code, rfl, hpre, hdec⟩ := famPre_ex hpre0
  clear hpre0 hdec
  try simp only [spLaw_pre] at hpre
  replace hpk : pk + 100000 ≤ pickLimit := hpk
  refine ⟨Nat.le_of_ble_eq_true rfl, ?_⟩
  have fold : ∀ (L : List (List Pt)) (rl w h : Int), (if okMask L rl w h = true then maskB L rl ⟨0, 0, w, h⟩ h else []) = maskV L rl w h := fun _ _ _ _ => rfl
  simp (config := { maxSteps := 1000000 }) only [go_sem, ↓ifP_true, ↓ifP_false, ↓ifP_not, Nat.reduceLT, Nat.reduceAdd, Nat.reduceBEq, Nat.reduceSub, Nat.reduceLeDiff, Nat.reduceEqDiff, Nat.reduceMul, Int.reduceToNat, Int.reduceEq, Int.reduceLT, Int.reduceLE, Int.reduceAdd, Int.reduceSub, Int.reduceMul, reduceCtorEq, cond_true, cond_false, forall_eq', forall_eq, forall_const, implies_true, if_true, if_false, exists_eq_left', exists_eq', exists_eq, ne_eq, Try.f5, tb5_22, tb5_23, tb5_25, tb5_24, tb5_26, spLaw_q, spLaw_A, spLaw_pre, spLaw_post, spDMO_q, spDMO_A, spDMO_pre, spDMO_post, spMask_q, spMask_A, spMask_pre, spMask_post, spEqI_q, spEqI_A, spEqI_pre, spEqI_post, spCovOf_q, spCovOf_A, spCovOf_pre, spCovOf_post, fold]
  repeat' (first | apply And.intro | (intro _) | omega | assumption | with_reducible rfl)
  all_goals try (exact Nat.le_trans (maskV_le _ _ _ _) (by decide))
  any_goals
    rename_i L rl w h hL1 hL2 hL3 hn
    have H := maskV_pos hn
    have hw := okMask_iff.1 H
    have hl := maskV_len H
    have hle := maskV_le L rl w h
    refine loopS (α := Int) false [0, 1, 2, 8, 9, 10, 11, 12, 13, 14, 15, 16, 17, 18, 19, 20, 21, 22, 23, 24, 25, 26, 27, 28, 29, 30, 31, 32, 33, 34, 35, 36, 37, 38, 39, 40, 41, 42, 43, 44, 45, 46, 47, 48, 49, 50, 51, 52, 53, 54, 55, 56, 57, 58, 59, 60, 61, 62, 63] (fun σ => []) (fun σ x => [(8, I x)]) (fun σ x => []) (fun i => 0) (fun σ => gI (σ.get 8)) (fun σ τ => []) (fun i => 0 ≤ i ∧ i ≤ (maskV L rl w h).length) (fun i => ((maskV L rl w h).length - i).toNat) ⟨by (simp (config := { maxSteps := 1000000 }) only [go_sem, ↓ifP_true, ↓ifP_false, ↓ifP_not, Nat.reduceLT, Nat.reduceAdd, Nat.reduceBEq, Nat.reduceSub, Nat.reduceLeDiff, Nat.reduceEqDiff, Nat.reduceMul, Int.reduceToNat, Int.reduceEq, Int.reduceLT, Int.reduceLE, Int.reduceAdd, Int.reduceSub, Int.reduceMul, reduceCtorEq, cond_true, cond_false, forall_eq', forall_eq, forall_const, implies_true, if_true, if_false, exists_eq_left', exists_eq', exists_eq, ne_eq, Try.f5, tb5_22, tb5_23, tb5_25, tb5_24, tb5_26, spLaw_q, spLaw_A, spLaw_pre, spLaw_post, spDMO_q, spDMO_A, spDMO_pre, spDMO_post, spMask_q, spMask_A, spMask_pre, spMask_post, spEqI_q, spEqI_A, spEqI_pre, spEqI_post, spCovOf_q, spCovOf_A, spCovOf_pre, spCovOf_post, fold]; (repeat' (first | apply And.intro | (intro _) | omega | assumption | with_reducible rfl))), ?_⟩
    rintro i hinv
    try dsimp only at hinv
    rcases elemAt (maskV L rl w h) i (by omega) with ⟨hlt, m, hk⟩ | hlt
    all_goals (first | ((have hlt2 := of_eq_true hlt); (have hd := divs (w := w) hinv.1 (by omega) (by omega)); (have hc := mask_cov H hinv.1 hlt2 hk); all_goals simp (config := { maxSteps := 1000000 }) only [go_sem, ↓ifP_true, ↓ifP_false, ↓ifP_not, Nat.reduceLT, Nat.reduceAdd, Nat.reduceBEq, Nat.reduceSub, Nat.reduceLeDiff, Nat.reduceEqDiff, Nat.reduceMul, Int.reduceToNat, Int.reduceEq, Int.reduceLT, Int.reduceLE, Int.reduceAdd, Int.reduceSub, Int.reduceMul, reduceCtorEq, cond_true, cond_false, forall_eq', forall_eq, forall_const, implies_true, if_true, if_false, exists_eq_left', exists_eq', exists_eq, ne_eq, Try.f5, tb5_22, tb5_23, tb5_25, tb5_24, tb5_26, spLaw_q, spLaw_A, spLaw_pre, spLaw_post, spDMO_q, spDMO_A, spDMO_pre, spDMO_post, spMask_q, spMask_A, spMask_pre, spMask_post, spEqI_q, spEqI_A, spEqI_pre, spEqI_post, spCovOf_q, spCovOf_A, spCovOf_pre, spCovOf_post, fold, hlt, hk]) | (have hlt2 := of_eq_false hlt; simp (config := { maxSteps := 1000000 }) only [go_sem, ↓ifP_true, ↓ifP_false, ↓ifP_not, Nat.reduceLT, Nat.reduceAdd, Nat.reduceBEq, Nat.reduceSub, Nat.reduceLeDiff, Nat.reduceEqDiff, Nat.reduceMul, Int.reduceToNat, Int.reduceEq, Int.reduceLT, Int.reduceLE, Int.reduceAdd, Int.reduceSub, Int.reduceMul, reduceCtorEq, cond_true, cond_false, forall_eq', forall_eq, forall_const, implies_true, if_true, if_false, exists_eq_left', exists_eq', exists_eq, ne_eq, Try.f5, tb5_22, tb5_23, tb5_25, tb5_24, tb5_26, spLaw_q, spLaw_A, spLaw_pre, spLaw_post, spDMO_q, spDMO_A, spDMO_pre, spDMO_post, spMask_q, spMask_A, spMask_pre, spMask_post, spEqI_q, spEqI_A, spEqI_pre, spEqI_post, spCovOf_q, spCovOf_A, spCovOf_pre, spCovOf_post, fold, hlt]))
    all_goals
    repeat' (first | apply And.intro | (intro _) | omega | assumption | with_reducible rfl)
  all_goals (first | (omega; done) | (exact absurd hc ‹_›; done) | ((have h9 := hc; contradiction); done) | ((rw [hl]); done))
theorem sat_laws_FnMaskOf : Sat Try.prog rt0 5 (wkIn spLaw) := sat_in sat_laws_FnMaskOf_0
end Go.Proofs.Ytdkfamajaopgoaa
