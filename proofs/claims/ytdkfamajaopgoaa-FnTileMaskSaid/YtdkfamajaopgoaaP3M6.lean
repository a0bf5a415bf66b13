/- Contracts of functions of the program vectorraster, each proved for all states that fit its description. No conditions. -/
import Derived.Test.YtdkfamajaopgoaaPN
set_option maxRecDepth 100000
set_option linter.unusedSimpArgs false
set_option linter.unusedVariables false
namespace Go.Proofs.Ytdkfamajaopgoaa
open Go Go.VE
theorem box_mul {w h t : Int} (H : isT w h t = true) : 0 ≤ ((tbox w h t).r - (tbox w h t).l) * ((tbox w h t).b - (tbox w h t).t) ∧ ((tbox w h t).r - (tbox w h t).l) * ((tbox w h t).b - (tbox w h t).t) ≤ 144 := by
  have hx := tbox_rng H
  have hp := tbox_pos H
  exact ⟨Int.mul_nonneg (by omega) (by omega), Int.mul_le_mul (show _ ≤ (12 : Int) by omega) (show _ ≤ (12 : Int) by omega) (by omega) (by omega)⟩
def tb9 : Nat → Option VE.Spec := tabOf [(31, wkIn spDTM), (32, wkIn spTMask), (33, wkIn spTMask), (24, wkIn spEqI), (26, wkIn spCovOf), (34, wkIn spTb)]
theorem tb9_31 : tb9 31 = some (wkIn spDTM) := rfl
theorem tb9_32 : tb9 32 = some (wkIn spTMask) := rfl
theorem tb9_33 : tb9 33 = some (wkIn spTMask) := rfl
theorem tb9_24 : tb9 24 = some (wkIn spEqI) := rfl
theorem tb9_26 : tb9 26 = some (wkIn spCovOf) := rfl
theorem tb9_34 : tb9 34 = some (wkIn spTb) := rfl
theorem tb9_ok : TabOK Try.prog rt0 tb9 := (tabOf_cons (by kernel_rfl) sat_spec_DrawTileMask (tabOf_cons (by kernel_rfl) sat_impl_TileMask (tabOf_cons (by kernel_rfl) sat_spec_TileMask (tabOf_cons (by kernel_rfl) sat_laws_equalInts (tabOf_cons (by kernel_rfl) sat_impl_CoverOf (tabOf_cons (by kernel_rfl) sat_impl_TileBox tabOf_nil))))))
set_option maxHeartbeats 4000000 in
theorem sat_laws_FnTileMask_0 : Sat Try.prog rt0 9 spLaw := by
  refine fn_sat hm ttok (tab := tb9) tb9_ok Try.func9 (c := Try.f9.body.getD .skip) (by kernel_rfl) (ts := [.tmp 2]) (by kernel_rfl) Try.ntmps9 (sq := fun _ => true) (by kernel_rfl) ?_
  intro args ins pk hpre0 hpk
  obtain ⟨rfl, hpre0⟩ := hpre0
  obtain ⟨code, rfl, hpre, hdec⟩ := famPre_ex hpre0
  clear hpre0 hdec
  try simp only [spLaw_pre] at hpre
  replace hpk : pk + 100000 ≤ pickLimit := hpk
  refine ⟨Nat.le_of_ble_eq_true rfl, ?_⟩
  simp (config := { maxSteps := 1000000 }) only [go_sem, ↓ifP_true, ↓ifP_false, ↓ifP_not, Nat.reduceLT, Nat.reduceAdd, Nat.reduceBEq, Nat.reduceSub, Nat.reduceLeDiff, Nat.reduceEqDiff, Nat.reduceMul, Int.reduceToNat, Int.reduceEq, Int.reduceLT, Int.reduceLE, Int.reduceAdd, Int.reduceSub, Int.reduceMul, reduceCtorEq, cond_true, cond_false, forall_eq', forall_eq, forall_const, implies_true, if_true, if_false, exists_eq_left', exists_eq', exists_eq, ne_eq, Try.f9, tb9_31, tb9_32, tb9_33, tb9_24, tb9_26, tb9_34, spLaw_q, spLaw_A, spLaw_pre, spLaw_post, spDTM_q, spDTM_A, spDTM_pre, spDTM_post, spTMask_q, spTMask_A, spTMask_pre, spTMask_post, spEqI_q, spEqI_A, spEqI_pre, spEqI_post, spCovOf_q, spCovOf_A, spCovOf_pre, spCovOf_post, spTb_q, spTb_A, spTb_pre, spTb_post]
  repeat' (first | apply And.intro | (intro _) | omega | assumption | with_reducible rfl)
  all_goals try (exact Nat.le_trans (tmV_le _ _ _ _ _) (by decide))
  all_goals try (rw [if_pos ‹isT _ _ _ = true›]; have := tbox_rng ‹isT _ _ _ = true›; omega)
  all_goals try (rw [if_pos ‹isT _ _ _ = true›]; have := box_mul ‹isT _ _ _ = true›; omega)
  any_goals
    rename_i L rl w h t hL1 hL2 hL3 hn hT hlen
    have H := tmV_pos hn
    have hle := tmV_le L rl w h t
    have hx := tbox_rng hT
    have hp := tbox_pos hT
    simp only [if_pos hT]
    refine loopS (α := Int) false [0, 1, 2, 5, 6, 7, 10, 11, 12, 13, 14, 15, 16, 17, 18, 19, 20, 21, 22, 23, 24, 25, 26, 27, 28, 29, 30, 31, 32, 33, 34, 35, 36, 37, 38, 39, 40, 41, 42, 43, 44, 45, 46, 47, 48, 49, 50, 51, 52, 53, 54, 55, 56, 57, 58, 59, 60, 61, 62, 63, 64, 65, 66, 67, 68, 69, 70, 71, 72, 73, 74, 75, 76, 77, 78, 79, 80, 81, 82, 83, 84, 85, 86, 87, 88, 89, 90, 91, 92, 93, 94, 95, 96, 97, 98, 99, 100, 101, 102, 103, 104, 105, 106, 107, 108, 109] (fun σ => []) (fun σ x => [(11, I x)]) (fun σ x => []) (fun i => 0) (fun σ => gI (σ.get 11)) (fun σ τ => []) (fun i => 0 ≤ i ∧ i ≤ (tmV L rl w h t).length) (fun i => ((tmV L rl w h t).length - i).toNat) ⟨by (simp (config := { maxSteps := 1000000 }) only [go_sem, ↓ifP_true, ↓ifP_false, ↓ifP_not, Nat.reduceLT, Nat.reduceAdd, Nat.reduceBEq, Nat.reduceSub, Nat.reduceLeDiff, Nat.reduceEqDiff, Nat.reduceMul, Int.reduceToNat, Int.reduceEq, Int.reduceLT, Int.reduceLE, Int.reduceAdd, Int.reduceSub, Int.reduceMul, reduceCtorEq, cond_true, cond_false, forall_eq', forall_eq, forall_const, implies_true, if_true, if_false, exists_eq_left', exists_eq', exists_eq, ne_eq, Try.f9, tb9_31, tb9_32, tb9_33, tb9_24, tb9_26, tb9_34, spLaw_q, spLaw_A, spLaw_pre, spLaw_post, spDTM_q, spDTM_A, spDTM_pre, spDTM_post, spTMask_q, spTMask_A, spTMask_pre, spTMask_post, spEqI_q, spEqI_A, spEqI_pre, spEqI_post, spCovOf_q, spCovOf_A, spCovOf_pre, spCovOf_post, spTb_q, spTb_A, spTb_pre, spTb_post]; (repeat' (first | apply And.intro | (intro _) | omega | assumption | with_reducible rfl))), ?_⟩
    rintro i hinv
    try dsimp only at hinv
    rcases elemAt (tmV L rl w h t) i (by omega) with ⟨hlt, m, hk⟩ | hlt
    all_goals (first | ((have hlt2 := of_eq_true hlt); (have hd := divs (w := (tbox w h t).r - (tbox w h t).l) hinv.1 (by omega) (by omega)); (have hc := tm_cov H hinv.1 hlt2 hk); all_goals simp (config := { maxSteps := 1000000 }) only [go_sem, ↓ifP_true, ↓ifP_false, ↓ifP_not, Nat.reduceLT, Nat.reduceAdd, Nat.reduceBEq, Nat.reduceSub, Nat.reduceLeDiff, Nat.reduceEqDiff, Nat.reduceMul, Int.reduceToNat, Int.reduceEq, Int.reduceLT, Int.reduceLE, Int.reduceAdd, Int.reduceSub, Int.reduceMul, reduceCtorEq, cond_true, cond_false, forall_eq', forall_eq, forall_const, implies_true, if_true, if_false, exists_eq_left', exists_eq', exists_eq, ne_eq, Try.f9, tb9_31, tb9_32, tb9_33, tb9_24, tb9_26, tb9_34, spLaw_q, spLaw_A, spLaw_pre, spLaw_post, spDTM_q, spDTM_A, spDTM_pre, spDTM_post, spTMask_q, spTMask_A, spTMask_pre, spTMask_post, spEqI_q, spEqI_A, spEqI_pre, spEqI_post, spCovOf_q, spCovOf_A, spCovOf_pre, spCovOf_post, spTb_q, spTb_A, spTb_pre, spTb_post, hlt, hk]) | (have hlt2 := of_eq_false hlt; simp (config := { maxSteps := 1000000 }) only [go_sem, ↓ifP_true, ↓ifP_false, ↓ifP_not, Nat.reduceLT, Nat.reduceAdd, Nat.reduceBEq, Nat.reduceSub, Nat.reduceLeDiff, Nat.reduceEqDiff, Nat.reduceMul, Int.reduceToNat, Int.reduceEq, Int.reduceLT, Int.reduceLE, Int.reduceAdd, Int.reduceSub, Int.reduceMul, reduceCtorEq, cond_true, cond_false, forall_eq', forall_eq, forall_const, implies_true, if_true, if_false, exists_eq_left', exists_eq', exists_eq, ne_eq, Try.f9, tb9_31, tb9_32, tb9_33, tb9_24, tb9_26, tb9_34, spLaw_q, spLaw_A, spLaw_pre, spLaw_post, spDTM_q, spDTM_A, spDTM_pre, spDTM_post, spTMask_q, spTMask_A, spTMask_pre, spTMask_post, spEqI_q, spEqI_A, spEqI_pre, spEqI_post, spCovOf_q, spCovOf_A, spCovOf_pre, spCovOf_post, spTb_q, spTb_A, spTb_pre, spTb_post, hlt]))
    all_goals
    repeat' (first | apply And.intro | (intro _) | omega | assumption | with_reducible rfl)
  all_goals (first | (omega; done) | (exact absurd hc ‹_›; done) | ((have h9 := hc; contradiction); done) | ((have h9 := (okTm_iff.1 (tmV_pos ‹_›)).2.2; rw [if_pos h9] at *; exact absurd (tmV_len (tmV_pos ‹_›)) ‹_›); done) | ((have h9 := (okTm_iff.1 (tmV_pos ‹_›)).2.2; rw [‹isT _ _ _ = false›] at h9; cases h9); done))
theorem sat_laws_FnTileMask : Sat Try.prog rt0 9 (wkIn spLaw) := sat_in sat_laws_FnTileMask_0
end Go.Proofs.Ytdkfamajaopgoaa
