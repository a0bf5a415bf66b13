/- Contracts of functions of the program vectorraster, each proved for all states that fit its description. No conditions. -/
import Derived.Test.YtdkfamajaopgoaaP3U6
import Derived.Test.YtdkfamajaopgoaaPF
set_option maxRecDepth 100000
set_option linter.unusedSimpArgs false
set_option linter.unusedVariables false
namespace Go.Proofs.Ytdkfamajaopgoaa
open Go Go.VE
def tb84 : Nat → Option VE.Spec := tabOf [(65, wkIn spIn)]
theorem tb84_65 : tb84 65 = some (wkIn spIn) := rfl
theorem tb84_ok : TabOK Try.prog rt0 tb84 := (tabOf_cons (by kernel_rfl) sat_impl_in tabOf_nil)
set_option maxHeartbeats 4000000 in
theorem sat_impl_isRow_0 : Sat Try.prog rt0 84 (wkOut spRow2) := by
  refine fn_sat hm ttok (tab := tb84) tb84_ok Try.func84 (c := Try.f84.body.getD .skip) (by kernel_rfl) (ts := [.tmp 2]) (by kernel_rfl) Try.ntmps84 (sq := fun _ => true) (by kernel_rfl) ?_
  intro args ins pk hpre0 hpk
  obtain ⟨rfl, hpre0⟩ := hpre0
  obtain ⟨n, rfl, hpre, hdec⟩ := famPre_ex hpre0
  clear hpre0 hdec
  try simp only [spRow2_pre] at hpre
  replace hpk : pk + 0 ≤ pickLimit := hpk
  refine ⟨Nat.le_of_ble_eq_true rfl, ?_⟩
  simp (config := { maxSteps := 1000000 }) only [go_sem, ↓ifP_true, ↓ifP_false, ↓ifP_not, Nat.reduceLT, Nat.reduceAdd, Nat.reduceBEq, Nat.reduceSub, Nat.reduceLeDiff, Nat.reduceEqDiff, Nat.reduceMul, Int.reduceToNat, Int.reduceEq, Int.reduceLT, Int.reduceLE, Int.reduceAdd, Int.reduceSub, Int.reduceMul, reduceCtorEq, cond_true, cond_false, forall_eq', forall_eq, forall_const, implies_true, if_true, if_false, exists_eq_left', exists_eq', exists_eq, ne_eq, Try.f84, tb84_65, spRow2_q, spRow2_A, spRow2_pre, spRow2_post, spIn_q, spIn_A, spIn_pre, spIn_post]
  repeat' (first | apply And.intro | (intro _) | omega | assumption | with_reducible rfl)
theorem sat_impl_isRow : Sat Try.prog rt0 84 (wkIn spRow2) := sat_in (sat_out sat_impl_isRow_0)
def tb36 : Nat → Option VE.Spec := tabOf [(57, wkIn spVRings), (65, wkIn spIn), (84, wkIn spRow2), (85, wkIn spWind), (86, wkIn spSamp)]
theorem tb36_57 : tb36 57 = some (wkIn spVRings) := rfl
theorem tb36_65 : tb36 65 = some (wkIn spIn) := rfl
theorem tb36_84 : tb36 84 = some (wkIn spRow2) := rfl
theorem tb36_85 : tb36 85 = some (wkIn spWind) := rfl
theorem tb36_86 : tb36 86 = some (wkIn spSamp) := rfl
theorem tb36_ok : TabOK Try.prog rt0 tb36 := (tabOf_cons (by kernel_rfl) sat_impl_ValidRings (tabOf_cons (by kernel_rfl) sat_impl_in (tabOf_cons (by kernel_rfl) sat_impl_isRow (tabOf_cons (by kernel_rfl) sat_impl_winding (tabOf_cons (by kernel_rfl) sat_impl_sampleAt tabOf_nil)))))
set_option maxHeartbeats 4000000 in
theorem sat_impl_BackdropOf_0 : Sat Try.prog rt0 36 (wkOut spBdOf) := by
  refine fn_sat hm ttok (tab := tb36) tb36_ok Try.func36 (c := Try.f36.body.getD .skip) (by kernel_rfl) (ts := [.tmp 6]) (by kernel_rfl) Try.ntmps36 (sq := fun _ => true) (by kernel_rfl) ?_
  intro args ins pk hpre0 hpk
  obtain ⟨rfl, hpre0⟩ := hpre0
  obtain ⟨⟨L, c, q⟩, rfl, hpre, hdec⟩ := famPre_ex hpre0
  clear hpre0 hdec
  try simp only [spBdOf_pre] at hpre
  replace hpk : pk + 0 ≤ pickLimit := hpk
  refine ⟨Nat.le_of_ble_eq_true rfl, ?_⟩
  simp (config := { maxSteps := 1000000 }) only [go_sem, ↓ifP_true, ↓ifP_false, ↓ifP_not, Nat.reduceLT, Nat.reduceAdd, Nat.reduceBEq, Nat.reduceSub, Nat.reduceLeDiff, Nat.reduceEqDiff, Nat.reduceMul, Int.reduceToNat, Int.reduceEq, Int.reduceLT, Int.reduceLE, Int.reduceAdd, Int.reduceSub, Int.reduceMul, reduceCtorEq, cond_true, cond_false, forall_eq', forall_eq, forall_const, implies_true, if_true, if_false, exists_eq_left', exists_eq', exists_eq, ne_eq, Try.f36, tb36_57, tb36_65, tb36_84, tb36_85, tb36_86, spBdOf_q, spBdOf_A, spBdOf_pre, spBdOf_post, spVRings_q, spVRings_A, spVRings_pre, spVRings_post, spIn_q, spIn_A, spIn_pre, spIn_post, spRow2_q, spRow2_A, spRow2_pre, spRow2_post, spWind_q, spWind_A, spWind_pre, spWind_post, spSamp_q, spSamp_A, spSamp_pre, spSamp_post]
  repeat' (first | apply And.intro | (intro _) | omega | assumption | with_reducible rfl)
  all_goals (first | (omega; done) | ((rw [bdV_eq ‹_› (by omega) (by omega)]); done) | ((rw [bdV, ‹vRings L = false›]; rfl); done) | ((rw [bdV, if_neg (by simp only [Bool.and_eq_true, decide_eq_true_eq]; omega)]); done))
theorem sat_impl_BackdropOf : Sat Try.prog rt0 36 (wkIn spBdOf) := sat_in (sat_out sat_impl_BackdropOf_0)
def tb11 : Nat → Option VE.Spec := tabOf [(31, wkIn spDTM), (32, wkIn spTMask), (33, wkIn spTMask), (24, wkIn spEqI), (35, wkIn spEdIn), (34, wkIn spTb), (36, wkIn spBdOf)]
theorem tb11_31 : tb11 31 = some (wkIn spDTM) := rfl
theorem tb11_32 : tb11 32 = some (wkIn spTMask) := rfl
theorem tb11_33 : tb11 33 = some (wkIn spTMask) := rfl
theorem tb11_24 : tb11 24 = some (wkIn spEqI) := rfl
theorem tb11_35 : tb11 35 = some (wkIn spEdIn) := rfl
theorem tb11_34 : tb11 34 = some (wkIn spTb) := rfl
theorem tb11_36 : tb11 36 = some (wkIn spBdOf) := rfl
theorem tb11_ok : TabOK Try.prog rt0 tb11 := (tabOf_cons (by kernel_rfl) sat_spec_DrawTileMask (tabOf_cons (by kernel_rfl) sat_impl_TileMask (tabOf_cons (by kernel_rfl) sat_spec_TileMask (tabOf_cons (by kernel_rfl) sat_laws_equalInts (tabOf_cons (by kernel_rfl) sat_impl_EdgesIn (tabOf_cons (by kernel_rfl) sat_impl_TileBox (tabOf_cons (by kernel_rfl) sat_impl_BackdropOf tabOf_nil)))))))
set_option maxHeartbeats 4000000 in
theorem sat_laws_FnTileMaskEmpty_0 : Sat Try.prog rt0 11 spLaw := by
  refine fn_sat hm ttok (tab := tb11) tb11_ok Try.func11 (c := Try.f11.body.getD .skip) (by kernel_rfl) (ts := [.tmp 2]) (by kernel_rfl) Try.ntmps11 (sq := fun _ => true) (by kernel_rfl) ?_
  intro args ins pk hpre0 hpk
  obtain ⟨rfl, hpre0⟩ := hpre0
  obtain ⟨code, rfl, hpre, hdec⟩ := famPre_ex hpre0
  clear hpre0 hdec
  try simp only [spLaw_pre] at hpre
  replace hpk : pk + 100000 ≤ pickLimit := hpk
  refine ⟨Nat.le_of_ble_eq_true rfl, ?_⟩
  simp (config := { maxSteps := 1000000 }) only [go_sem, ↓ifP_true, ↓ifP_false, ↓ifP_not, Nat.reduceLT, Nat.reduceAdd, Nat.reduceBEq, Nat.reduceSub, Nat.reduceLeDiff, Nat.reduceEqDiff, Nat.reduceMul, Int.reduceToNat, Int.reduceEq, Int.reduceLT, Int.reduceLE, Int.reduceAdd, Int.reduceSub, Int.reduceMul, reduceCtorEq, cond_true, cond_false, forall_eq', forall_eq, forall_const, implies_true, if_true, if_false, exists_eq_left', exists_eq', exists_eq, ne_eq, Try.f11, tb11_31, tb11_32, tb11_33, tb11_24, tb11_35, tb11_34, tb11_36, spLaw_q, spLaw_A, spLaw_pre, spLaw_post, spDTM_q, spDTM_A, spDTM_pre, spDTM_post, spTMask_q, spTMask_A, spTMask_pre, spTMask_post, spEqI_q, spEqI_A, spEqI_pre, spEqI_post, spEdIn_q, spEdIn_A, spEdIn_pre, spEdIn_post, spTb_q, spTb_A, spTb_pre, spTb_post, spBdOf_q, spBdOf_A, spBdOf_pre, spBdOf_post]
  repeat' (first | apply And.intro | (intro _) | omega | assumption | with_reducible rfl)
  all_goals try (exact Nat.le_trans (tmV_le _ _ _ _ _) (by decide))
  all_goals try (have hT2 := (okTm_iff.1 (tmV_pos ‹¬ ((tmV _ _ _ _ _).length : Int) = 0›)).2.2; rw [if_pos hT2]; have := tbox_rng hT2; omega)
  any_goals
    rename_i L rl w h t hL1 hL2 hL3 hn he0
    have H := tmV_pos hn
    have hT := (okTm_iff.1 H).2.2
    have hV := (okTm_iff.1 H).1
    have hR := (okTm_iff.1 H).2.1
    have he := touch_none H he0
    have hle := tmV_le L rl w h t
    have hx := tbox_rng hT
    have hp := tbox_pos hT
    simp only [if_pos hT, hT]
    refine loopS (α := Int) false [0, 1, 2, 5, 6, 7, 12, 13, 14, 15, 16, 17, 18, 19, 20, 21, 22, 23, 24, 25, 26, 27, 28, 29, 30, 31, 32, 33, 34, 35, 36, 37, 38, 39, 40, 41, 42, 43, 44, 45, 46, 47, 48, 49, 50, 51, 52, 53, 54, 55, 56, 57, 58, 59, 60, 61, 62, 63, 64, 65, 66, 67, 68, 69, 70, 71, 72, 73, 74, 75, 76, 77, 78, 79, 80, 81, 82, 83, 84, 85, 86, 87, 88, 89, 90, 91, 92, 93, 94, 95, 96, 97, 98, 99, 100, 101, 102, 103, 104, 105, 106, 107, 108, 109, 110, 111, 112, 113, 114, 115, 116, 117, 118, 119, 120, 121, 122, 123, 124] (fun σ => []) (fun σ x => [(12, I x)]) (fun σ x => []) (fun i => 0) (fun σ => gI (σ.get 12)) (fun σ τ => []) (fun i => 0 ≤ i ∧ i ≤ (tmV L rl w h t).length) (fun i => ((tmV L rl w h t).length - i).toNat) ⟨by (simp (config := { maxSteps := 1000000 }) only [go_sem, ↓ifP_true, ↓ifP_false, ↓ifP_not, Nat.reduceLT, Nat.reduceAdd, Nat.reduceBEq, Nat.reduceSub, Nat.reduceLeDiff, Nat.reduceEqDiff, Nat.reduceMul, Int.reduceToNat, Int.reduceEq, Int.reduceLT, Int.reduceLE, Int.reduceAdd, Int.reduceSub, Int.reduceMul, reduceCtorEq, cond_true, cond_false, forall_eq', forall_eq, forall_const, implies_true, if_true, if_false, exists_eq_left', exists_eq', exists_eq, ne_eq, Try.f11, tb11_31, tb11_32, tb11_33, tb11_24, tb11_35, tb11_34, tb11_36, spLaw_q, spLaw_A, spLaw_pre, spLaw_post, spDTM_q, spDTM_A, spDTM_pre, spDTM_post, spTMask_q, spTMask_A, spTMask_pre, spTMask_post, spEqI_q, spEqI_A, spEqI_pre, spEqI_post, spEdIn_q, spEdIn_A, spEdIn_pre, spEdIn_post, spTb_q, spTb_A, spTb_pre, spTb_post, spBdOf_q, spBdOf_A, spBdOf_pre, spBdOf_post]; (repeat' (first | apply And.intro | (intro _) | omega | assumption | with_reducible rfl))), ?_⟩
    rintro i hinv
    try dsimp only at hinv
    rcases elemAt (tmV L rl w h t) i (by omega) with ⟨hlt, m, hk⟩ | hlt
    all_goals (first | ((have hlt2 := of_eq_true hlt); (have hd := divs (w := (tbox w h t).r - (tbox w h t).l) hinv.1 (by omega) (by omega)); (have hc := tm_cov2 H he hinv.1 hlt2 hk); all_goals simp (config := { maxSteps := 1000000 }) only [go_sem, ↓ifP_true, ↓ifP_false, ↓ifP_not, Nat.reduceLT, Nat.reduceAdd, Nat.reduceBEq, Nat.reduceSub, Nat.reduceLeDiff, Nat.reduceEqDiff, Nat.reduceMul, Int.reduceToNat, Int.reduceEq, Int.reduceLT, Int.reduceLE, Int.reduceAdd, Int.reduceSub, Int.reduceMul, reduceCtorEq, cond_true, cond_false, forall_eq', forall_eq, forall_const, implies_true, if_true, if_false, exists_eq_left', exists_eq', exists_eq, ne_eq, Try.f11, tb11_31, tb11_32, tb11_33, tb11_24, tb11_35, tb11_34, tb11_36, spLaw_q, spLaw_A, spLaw_pre, spLaw_post, spDTM_q, spDTM_A, spDTM_pre, spDTM_post, spTMask_q, spTMask_A, spTMask_pre, spTMask_post, spEqI_q, spEqI_A, spEqI_pre, spEqI_post, spEdIn_q, spEdIn_A, spEdIn_pre, spEdIn_post, spTb_q, spTb_A, spTb_pre, spTb_post, spBdOf_q, spBdOf_A, spBdOf_pre, spBdOf_post, hlt, hk]) | (have hlt2 := of_eq_false hlt; simp (config := { maxSteps := 1000000 }) only [go_sem, ↓ifP_true, ↓ifP_false, ↓ifP_not, Nat.reduceLT, Nat.reduceAdd, Nat.reduceBEq, Nat.reduceSub, Nat.reduceLeDiff, Nat.reduceEqDiff, Nat.reduceMul, Int.reduceToNat, Int.reduceEq, Int.reduceLT, Int.reduceLE, Int.reduceAdd, Int.reduceSub, Int.reduceMul, reduceCtorEq, cond_true, cond_false, forall_eq', forall_eq, forall_const, implies_true, if_true, if_false, exists_eq_left', exists_eq', exists_eq, ne_eq, Try.f11, tb11_31, tb11_32, tb11_33, tb11_24, tb11_35, tb11_34, tb11_36, spLaw_q, spLaw_A, spLaw_pre, spLaw_post, spDTM_q, spDTM_A, spDTM_pre, spDTM_post, spTMask_q, spTMask_A, spTMask_pre, spTMask_post, spEqI_q, spEqI_A, spEqI_pre, spEqI_post, spEdIn_q, spEdIn_A, spEdIn_pre, spEdIn_post, spTb_q, spTb_A, spTb_pre, spTb_post, spBdOf_q, spBdOf_A, spBdOf_pre, spBdOf_post, hlt]))
    all_goals
    repeat' (first | apply And.intro | (intro _) | omega | assumption | with_reducible rfl)
  any_goals
    refine loopS (α := Int × Int) false [0, 1, 5, 6, 7, 13, 14, 15, 16, 17, 18, 19, 20, 21, 22, 23, 24, 25, 26, 27, 28, 29, 30, 31, 32, 33, 34, 35, 36, 37, 38, 39, 40, 41, 42, 43, 44, 45, 46, 47, 48, 49, 50, 51, 52, 53, 54, 55, 56, 57, 58, 59, 60, 61, 62, 63, 64, 65, 66, 67, 68, 69, 70, 71, 72, 73, 74, 75, 76, 77, 78, 79, 80, 81, 82, 83, 84, 85, 86, 87, 88, 89, 90, 91, 92, 93, 94, 95, 96, 97, 98, 99, 100, 101, 102, 103, 104, 105, 106, 107, 108, 109, 110, 111, 112, 113, 114, 115, 116, 117, 118, 124] (fun σ => []) (fun σ x => [(13, I x.1), (14, I x.2)]) (fun σ x => []) (fun (n, k) => 0) (fun σ => (gI (σ.get 13), gI (σ.get 14))) (fun σ τ => []) (fun (n, k) => (0 ≤ k ∧ k ≤ 4) ∧ n = sumN (bin4 L (tbox w h t).l rl ((tbox w h t).t + i.tdiv ((tbox w h t).r - (tbox w h t).l))) k.toNat) (fun (n, k) => (4 - k).toNat) ⟨by (simp (config := { maxSteps := 1000000 }) only [go_sem, ↓ifP_true, ↓ifP_false, ↓ifP_not, Nat.reduceLT, Nat.reduceAdd, Nat.reduceBEq, Nat.reduceSub, Nat.reduceLeDiff, Nat.reduceEqDiff, Nat.reduceMul, Int.reduceToNat, Int.reduceEq, Int.reduceLT, Int.reduceLE, Int.reduceAdd, Int.reduceSub, Int.reduceMul, reduceCtorEq, cond_true, cond_false, forall_eq', forall_eq, forall_const, implies_true, if_true, if_false, exists_eq_left', exists_eq', exists_eq, ne_eq, Try.f11, tb11_31, tb11_32, tb11_33, tb11_24, tb11_35, tb11_34, tb11_36, spLaw_q, spLaw_A, spLaw_pre, spLaw_post, spDTM_q, spDTM_A, spDTM_pre, spDTM_post, spTMask_q, spTMask_A, spTMask_pre, spTMask_post, spEqI_q, spEqI_A, spEqI_pre, spEqI_post, spEdIn_q, spEdIn_A, spEdIn_pre, spEdIn_post, spTb_q, spTb_A, spTb_pre, spTb_post, spBdOf_q, spBdOf_A, spBdOf_pre, spBdOf_post]; (repeat' (first | apply And.intro | (intro _) | omega | assumption | with_reducible rfl)); all_goals (first | rfl)), ?_⟩
    rintro ⟨n, k⟩ hinv
    try dsimp only at hinv
    simp (config := { maxSteps := 1000000 }) only [go_sem, ↓ifP_true, ↓ifP_false, ↓ifP_not, Nat.reduceLT, Nat.reduceAdd, Nat.reduceBEq, Nat.reduceSub, Nat.reduceLeDiff, Nat.reduceEqDiff, Nat.reduceMul, Int.reduceToNat, Int.reduceEq, Int.reduceLT, Int.reduceLE, Int.reduceAdd, Int.reduceSub, Int.reduceMul, reduceCtorEq, cond_true, cond_false, forall_eq', forall_eq, forall_const, implies_true, if_true, if_false, exists_eq_left', exists_eq', exists_eq, ne_eq, Try.f11, tb11_31, tb11_32, tb11_33, tb11_24, tb11_35, tb11_34, tb11_36, spLaw_q, spLaw_A, spLaw_pre, spLaw_post, spDTM_q, spDTM_A, spDTM_pre, spDTM_post, spTMask_q, spTMask_A, spTMask_pre, spTMask_post, spEqI_q, spEqI_A, spEqI_pre, spEqI_post, spEdIn_q, spEdIn_A, spEdIn_pre, spEdIn_post, spTb_q, spTb_A, spTb_pre, spTb_post, spBdOf_q, spBdOf_A, spBdOf_pre, spBdOf_post]
    have hB := bin4_bd L (tbox w h t).l rl ((tbox w h t).t + i.tdiv ((tbox w h t).r - (tbox w h t).l)) k.toNat
    repeat' (first | apply And.intro | (intro _) | omega | assumption | with_reducible rfl)
  all_goals (first | ((exfalso; exact isRl_no hR ‹_› ‹_›); done) | (exact emp_0 hV hx.1 ⟨by omega, by omega⟩ hinv.1 ‹k < 4› hinv.2 (i00 ‹_› ‹_›); done) | (exact emp_4 hV hx.1 ⟨by omega, by omega⟩ hinv.1 ‹k < 4› hinv.2 (i01 ‹_› ‹_›); done) | (exact emp_0 hV hx.1 ⟨by omega, by omega⟩ hinv.1 ‹k < 4› hinv.2 (i10 ‹_› ‹_›); done) | (exact emp_4 hV hx.1 ⟨by omega, by omega⟩ hinv.1 ‹k < 4› hinv.2 (i11 ‹_› ‹_›); done) | ((have h9 := hc.1; rw [show k.toNat = 4 by omega] at hinv; rw [← hinv.2] at h9; rename_i k2 e2 hne; rw [hk] at e2; exact hne ((Option.some.inj e2).symm.trans h9)); done))
theorem sat_laws_FnTileMaskEmpty : Sat Try.prog rt0 11 (wkIn spLaw) := sat_in sat_laws_FnTileMaskEmpty_0
end Go.Proofs.Ytdkfamajaopgoaa
