/- Contracts of functions of the program vectorraster, each proved for all states that fit its description. No conditions. -/
import Derived.Test.YtkhplopcjkkejaaGreatPU
set_option maxRecDepth 100000
set_option linter.unusedSimpArgs false
set_option linter.unusedVariables false
namespace Go.Proofs.YtkhplopcjkkejaaGreat
open Go Go.VE
def tb5 : Nat → Option VE.Spec := tabOf [(24, wkIn spDScn), (25, wkIn spDrawS), (27, wkIn spDrawS), (26, wkIn spEqC)]
theorem tb5_24 : tb5 24 = some (wkIn spDScn) := rfl
theorem tb5_25 : tb5 25 = some (wkIn spDrawS) := rfl
theorem tb5_27 : tb5 27 = some (wkIn spDrawS) := rfl
theorem tb5_26 : tb5 26 = some (wkIn spEqC) := rfl
theorem tb5_ok : TabOK Tryz.prog rt0 tb5 := (tabOf_cons (by kernel_rfl) sat_spec_DrawDrawScene (tabOf_cons (by kernel_rfl) sat_impl_DrawScene (tabOf_cons (by kernel_rfl) sat_spec_DrawScene (tabOf_cons (by kernel_rfl) sat_laws_equalColors tabOf_nil))))
set_option maxHeartbeats 4000000 in
theorem sat_laws_FnDrawSceneLower_0 : Sat Tryz.prog rt0 5 spLaw := by
  refine fn_sat hm ttok (tab := tb5) tb5_ok Tryz.func5 (c := Tryz.f5.body.getD .skip) (by kernel_rfl) (ts := [.tmp 2]) (by kernel_rfl) Tryz.ntmps5 (sq := fun _ => true) (by kernel_rfl) ?_
  intro args ins pk hpre0 hpk
  obtain ⟨rfl, hpre0⟩ := hpre0
  obtain ⟨code, rfl, hpre, hdec⟩ := famPre_ex hpre0
  clear hpre0 hdec
  try simp only [spLaw_pre] at hpre
  replace hpk : pk + 100000 ≤ pickLimit := hpk
  refine ⟨Nat.le_of_ble_eq_true rfl, ?_⟩
  simp (config := { maxSteps := 1000000 }) only [go_sem, ↓ifP_true, ↓ifP_false, ↓ifP_not, Nat.reduceLT, Nat.reduceAdd, Nat.reduceBEq, Nat.reduceSub, Nat.reduceLeDiff, Nat.reduceEqDiff, Nat.reduceMul, Int.reduceToNat, Int.reduceEq, Int.reduceLT, Int.reduceLE, Int.reduceAdd, Int.reduceSub, Int.reduceMul, reduceCtorEq, cond_true, cond_false, forall_eq', forall_eq, forall_const, implies_true, if_true, if_false, exists_eq_left', exists_eq', exists_eq, ne_eq, Tryz.f5, tb5_24, tb5_25, tb5_27, tb5_26, spLaw_q, spLaw_A, spLaw_pre, spLaw_post, spDScn_q, spDScn_A, spDScn_pre, spDScn_post, spDrawS_q, spDrawS_A, spDrawS_pre, spDrawS_post, spEqC_q, spEqC_A, spEqC_pre, spEqC_post]
  repeat' (first | apply And.intro | (intro _) | omega | assumption | with_reducible rfl)
  all_goals (first | (exact (‹okScn _›).fs; done) | (exact Nat.le_trans (drawV_len _) (by decide); done) | ((have h9 := (‹okScn _›).h; omega); done) | ((have h9 := (draw_low ‹¬ ((drawV _).length : Int) = 0› ‹¬ _ = (1 : Int)›).2; omega); done) | ((rw [List.length_take]; have h9 := drawV_len ‹Scn›; omega); done) | (exact (draw_low ‹_› ‹_›).1; done))
theorem sat_laws_FnDrawSceneLower : Sat Tryz.prog rt0 5 (wkIn spLaw) := sat_in sat_laws_FnDrawSceneLower_0
end Go.Proofs.YtkhplopcjkkejaaGreat
