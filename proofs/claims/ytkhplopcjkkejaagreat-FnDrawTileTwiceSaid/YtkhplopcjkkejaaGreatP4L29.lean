/- Contracts of functions of the program vectorraster, each proved for all states that fit its description. No conditions. -/
import Derived.Test.YtkhplopcjkkejaaGreatPW
import Derived.Test.YtkhplopcjkkejaaGreatPV
set_option maxRecDepth 100000
set_option linter.unusedSimpArgs false
set_option linter.unusedVariables false
namespace Go.Proofs.YtkhplopcjkkejaaGreat
open Go Go.VE
def tb9 : Nat → Option VE.Spec := tabOf [(33, wkIn spDDT), (34, wkIn spDT), (35, wkIn spDT), (36, wkIn spEqF), (37, wkIn spGap)]
theorem tb9_33 : tb9 33 = some (wkIn spDDT) := rfl
theorem tb9_34 : tb9 34 = some (wkIn spDT) := rfl
theorem tb9_35 : tb9 35 = some (wkIn spDT) := rfl
theorem tb9_36 : tb9 36 = some (wkIn spEqF) := rfl
theorem tb9_37 : tb9 37 = some (wkIn spGap) := rfl
theorem tb9_ok : TabOK Tryz.prog rt0 tb9 := (tabOf_cons (by kernel_rfl) sat_spec_DrawDrawTile (tabOf_cons (by kernel_rfl) sat_impl_DrawTile (tabOf_cons (by kernel_rfl) sat_spec_DrawTile (tabOf_cons (by kernel_rfl) sat_laws_equalFrame (tabOf_cons (by kernel_rfl) sat_impl_FrameGap tabOf_nil)))))
set_option maxHeartbeats 4000000 in
theorem sat_laws_FnDrawTileTwice_0 : Sat Tryz.prog rt0 9 spLaw := by
  refine fn_sat hm ttok (tab := tb9) tb9_ok Tryz.func9 (c := Tryz.f9.body.getD .skip) (by kernel_rfl) (ts := [.tmp 2]) (by kernel_rfl) Tryz.ntmps9 (sq := fun _ => true) (by kernel_rfl) ?_
  intro args ins pk hpre0 hpk
  obtain ⟨rfl, hpre0⟩ := hpre0
  obtain ⟨code, rfl, hpre, hdec⟩ := famPre_ex hpre0
  clear hpre0 hdec
  try simp only [spLaw_pre] at hpre
  replace hpk : pk + 100000 ≤ pickLimit := hpk
  refine ⟨Nat.le_of_ble_eq_true rfl, ?_⟩
  simp (config := { maxSteps := 1000000 }) only [go_sem, ↓ifP_true, ↓ifP_false, ↓ifP_not, Nat.reduceLT, Nat.reduceAdd, Nat.reduceBEq, Nat.reduceSub, Nat.reduceLeDiff, Nat.reduceEqDiff, Nat.reduceMul, Int.reduceToNat, Int.reduceEq, Int.reduceLT, Int.reduceLE, Int.reduceAdd, Int.reduceSub, Int.reduceMul, reduceCtorEq, cond_true, cond_false, forall_eq', forall_eq, forall_const, implies_true, if_true, if_false, exists_eq_left', exists_eq', exists_eq, ne_eq, Tryz.f9, tb9_33, tb9_34, tb9_35, tb9_36, tb9_37, spLaw_q, spLaw_A, spLaw_pre, spLaw_post, spDDT_q, spDDT_A, spDDT_pre, spDDT_post, spDT_q, spDT_A, spDT_pre, spDT_post, spEqF_q, spEqF_A, spEqF_pre, spEqF_post, spGap_q, spGap_A, spGap_pre, spGap_post]
  repeat' (first | apply And.intro | (intro _) | omega | assumption | with_reducible rfl)
  all_goals (first | (exact (‹okScn _›).fs; done) | (exact Nat.le_trans (dt_plen _ _ _) (Nat.le_trans (by assumption) (by decide)); done) | (exact Nat.le_trans (dt_plen _ _ _) (Nat.le_trans (dt_plen _ _ _) (Nat.le_trans (by assumption) (by decide))); done) | (exact dt_gap ‹_›; done) | ((exfalso; exact absurd (dt_two ‹okDT _ _ _ = true›) ‹_›); done) | ((exfalso; rename_i h7 h8; have h9 := dt_again h7; rw [h9] at h8; cases h8); done) | ((rename_i h6 h7 h8; exact absurd (dt_two h6) h8); done))
theorem sat_laws_FnDrawTileTwice : Sat Tryz.prog rt0 9 (wkIn spLaw) := sat_in sat_laws_FnDrawTileTwice_0
end Go.Proofs.YtkhplopcjkkejaaGreat
