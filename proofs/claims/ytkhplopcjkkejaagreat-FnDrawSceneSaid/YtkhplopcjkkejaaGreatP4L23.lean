/- Contracts of functions of the program vectorraster, each proved for all states that fit its description. No conditions. -/
import Derived.Test.YtkhplopcjkkejaaGreatPU
set_option maxRecDepth 100000
set_option linter.unusedSimpArgs false
set_option linter.unusedVariables false
namespace Go.Proofs.YtkhplopcjkkejaaGreat
open Go Go.VE
def tb6 : Nat → Option VE.Spec := tabOf [(24, wkIn spDScn), (25, wkIn spDrawS), (27, wkIn spDrawS), (26, wkIn spEqC), (15, wkIn spPixOf)]
theorem tb6_24 : tb6 24 = some (wkIn spDScn) := rfl
theorem tb6_25 : tb6 25 = some (wkIn spDrawS) := rfl
theorem tb6_27 : tb6 27 = some (wkIn spDrawS) := rfl
theorem tb6_26 : tb6 26 = some (wkIn spEqC) := rfl
theorem tb6_15 : tb6 15 = some (wkIn spPixOf) := rfl
theorem tb6_ok : TabOK Tryz.prog rt0 tb6 := (tabOf_cons (by kernel_rfl) sat_spec_DrawDrawScene (tabOf_cons (by kernel_rfl) sat_impl_DrawScene (tabOf_cons (by kernel_rfl) sat_spec_DrawScene (tabOf_cons (by kernel_rfl) sat_laws_equalColors (tabOf_cons (by kernel_rfl) sat_impl_PixelOf tabOf_nil)))))
set_option maxHeartbeats 4000000 in
theorem sat_laws_FnDrawScene_0 : Sat Tryz.prog rt0 6 spLaw := by
  refine fn_sat hm ttok (tab := tb6) tb6_ok Tryz.func6 (c := Tryz.f6.body.getD .skip) (by kernel_rfl) (ts := [.tmp 2]) (by kernel_rfl) Tryz.ntmps6 (sq := fun _ => true) (by kernel_rfl) ?_
  intro args ins pk hpre0 hpk
  obtain ⟨rfl, hpre0⟩ := hpre0
  obtain ⟨code, rfl, hpre, hdec⟩ := famPre_ex hpre0
  clear hpre0 hdec
  try simp only [spLaw_pre] at hpre
  replace hpk : pk + 100000 ≤ pickLimit := hpk
  refine ⟨Nat.le_of_ble_eq_true rfl, ?_⟩
  simp (config := { maxSteps := 1000000 }) only [go_sem, ↓ifP_true, ↓ifP_false, ↓ifP_not, Nat.reduceLT, Nat.reduceAdd, Nat.reduceBEq, Nat.reduceSub, Nat.reduceLeDiff, Nat.reduceEqDiff, Nat.reduceMul, Int.reduceToNat, Int.reduceEq, Int.reduceLT, Int.reduceLE, Int.reduceAdd, Int.reduceSub, Int.reduceMul, reduceCtorEq, cond_true, cond_false, forall_eq', forall_eq, forall_const, implies_true, if_true, if_false, exists_eq_left', exists_eq', exists_eq, ne_eq, Tryz.f6, tb6_24, tb6_25, tb6_27, tb6_26, tb6_15, spLaw_q, spLaw_A, spLaw_pre, spLaw_post, spDScn_q, spDScn_A, spDScn_pre, spDScn_post, spDrawS_q, spDrawS_A, spDrawS_pre, spDrawS_post, spEqC_q, spEqC_A, spEqC_pre, spEqC_post, spPixOf_q, spPixOf_A, spPixOf_pre, spPixOf_post, rep_co]
  repeat' (first | apply And.intro | (intro _) | omega | assumption | with_reducible rfl)
  any_goals
    rename_i c hc hn
    have hdl := drawV_len c
    refine loopS (α := Int) false [0, 1, 2, 5, 7, 8, 9, 10, 11, 12, 13, 14, 15, 16, 17, 18, 19, 20, 21, 22, 23, 24, 25, 26, 27, 28, 29, 30, 31, 32, 33, 34, 35, 36, 37, 38, 39, 40, 41, 42, 43, 44, 45, 46, 47, 48] (fun σ => []) (fun σ x => [(5, I x)]) (fun σ x => []) (fun i => 0) (fun σ => gI (σ.get 5)) (fun σ τ => []) (fun i => 0 ≤ i ∧ i ≤ (drawV c).length) (fun i => ((drawV c).length - i).toNat) ⟨by (simp (config := { maxSteps := 1000000 }) only [go_sem, ↓ifP_true, ↓ifP_false, ↓ifP_not, Nat.reduceLT, Nat.reduceAdd, Nat.reduceBEq, Nat.reduceSub, Nat.reduceLeDiff, Nat.reduceEqDiff, Nat.reduceMul, Int.reduceToNat, Int.reduceEq, Int.reduceLT, Int.reduceLE, Int.reduceAdd, Int.reduceSub, Int.reduceMul, reduceCtorEq, cond_true, cond_false, forall_eq', forall_eq, forall_const, implies_true, if_true, if_false, exists_eq_left', exists_eq', exists_eq, ne_eq, Tryz.f6, tb6_24, tb6_25, tb6_27, tb6_26, tb6_15, spLaw_q, spLaw_A, spLaw_pre, spLaw_post, spDScn_q, spDScn_A, spDScn_pre, spDScn_post, spDrawS_q, spDrawS_A, spDrawS_pre, spDrawS_post, spEqC_q, spEqC_A, spEqC_pre, spEqC_post, spPixOf_q, spPixOf_A, spPixOf_pre, spPixOf_post, rep_co]; (repeat' (first | apply And.intro | (intro _) | omega | assumption | with_reducible rfl))), ?_⟩
    rintro i hinv
    try dsimp only at hinv
    rcases elemAt (drawV c) i (by omega) with ⟨hlt, k, hk⟩ | hlt
    all_goals (first | ((have hlt2 := of_eq_true hlt); (obtain ⟨hv, hr, hm, hd, hg⟩ := drawV_rng hn hinv.1 hlt2); (have hp := drawV_pix hn hinv.1 hlt2 hk); all_goals simp (config := { maxSteps := 1000000 }) only [go_sem, ↓ifP_true, ↓ifP_false, ↓ifP_not, Nat.reduceLT, Nat.reduceAdd, Nat.reduceBEq, Nat.reduceSub, Nat.reduceLeDiff, Nat.reduceEqDiff, Nat.reduceMul, Int.reduceToNat, Int.reduceEq, Int.reduceLT, Int.reduceLE, Int.reduceAdd, Int.reduceSub, Int.reduceMul, reduceCtorEq, cond_true, cond_false, forall_eq', forall_eq, forall_const, implies_true, if_true, if_false, exists_eq_left', exists_eq', exists_eq, ne_eq, Tryz.f6, tb6_24, tb6_25, tb6_27, tb6_26, tb6_15, spLaw_q, spLaw_A, spLaw_pre, spLaw_post, spDScn_q, spDScn_A, spDScn_pre, spDScn_post, spDrawS_q, spDrawS_A, spDrawS_pre, spDrawS_post, spEqC_q, spEqC_A, spEqC_pre, spEqC_post, spPixOf_q, spPixOf_A, spPixOf_pre, spPixOf_post, rep_co, hlt, hk]) | (have hlt2 := of_eq_false hlt; simp (config := { maxSteps := 1000000 }) only [go_sem, ↓ifP_true, ↓ifP_false, ↓ifP_not, Nat.reduceLT, Nat.reduceAdd, Nat.reduceBEq, Nat.reduceSub, Nat.reduceLeDiff, Nat.reduceEqDiff, Nat.reduceMul, Int.reduceToNat, Int.reduceEq, Int.reduceLT, Int.reduceLE, Int.reduceAdd, Int.reduceSub, Int.reduceMul, reduceCtorEq, cond_true, cond_false, forall_eq', forall_eq, forall_const, implies_true, if_true, if_false, exists_eq_left', exists_eq', exists_eq, ne_eq, Tryz.f6, tb6_24, tb6_25, tb6_27, tb6_26, tb6_15, spLaw_q, spLaw_A, spLaw_pre, spLaw_post, spDScn_q, spDScn_A, spDScn_pre, spDScn_post, spDrawS_q, spDrawS_A, spDrawS_pre, spDrawS_post, spEqC_q, spEqC_A, spEqC_pre, spEqC_post, spPixOf_q, spPixOf_A, spPixOf_pre, spPixOf_post, rep_co, hlt]))
    all_goals
    repeat' (first | apply And.intro | (intro _) | omega | assumption | with_reducible rfl)
  all_goals (first | (exact (‹okScn _›).fs; done) | (exact hc.fs; done) | (exact okFs_nil; done) | (exact Nat.le_trans (drawV_len _) (by decide); done) | ((have h9 := draw_size hn; omega); done) | ((exact ‹¬ k = _› hp); done) | ((exact (draw_size hn)); done) | ((exact (draw_nil hn)); done) | ((rw [List.length_replicate]; omega); done) | (simp_all; done))
theorem sat_laws_FnDrawScene : Sat Tryz.prog rt0 6 (wkIn spLaw) := sat_in sat_laws_FnDrawScene_0
end Go.Proofs.YtkhplopcjkkejaaGreat
