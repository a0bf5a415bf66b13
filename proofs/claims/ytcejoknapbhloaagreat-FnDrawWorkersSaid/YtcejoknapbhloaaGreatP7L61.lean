/- Contracts of functions of the program vectorraster, each proved for all states that fit its description. No conditions. -/
import Derived.Test.YtcejoknapbhloaaGreatPWL
import Derived.Test.YtcejoknapbhloaaGreatPU
import Derived.Test.YtcejoknapbhloaaGreatPV
set_option maxRecDepth 100000
set_option linter.unusedSimpArgs false
set_option linter.unusedVariables false
namespace Go.Proofs.YtcejoknapbhloaaGreat
open Go Go.VE
theorem dw_lenD (s : Scn) (W : Int) (l : List Trn) : (dwF s W l).px.length ≤ 1000000 := Nat.le_trans (dw_len s W l) (by decide)
def tb3 : Nat → Option VE.Spec := tabOf [(6, wkIn spDDW), (7, wkIn spDWk), (8, wkIn spDWk), (9, wkIn spEqF), (10, wkIn spEqC), (11, wkIn spDrawS)]
theorem tb3_6 : tb3 6 = some (wkIn spDDW) := rfl
theorem tb3_7 : tb3 7 = some (wkIn spDWk) := rfl
theorem tb3_8 : tb3 8 = some (wkIn spDWk) := rfl
theorem tb3_9 : tb3 9 = some (wkIn spEqF) := rfl
theorem tb3_10 : tb3 10 = some (wkIn spEqC) := rfl
theorem tb3_11 : tb3 11 = some (wkIn spDrawS) := rfl
theorem tb3_ok : TabOK Tryz.prog rt0 tb3 := (tabOf_cons (by kernel_rfl) sat_spec_DrawDrawWorkers (tabOf_cons (by kernel_rfl) sat_impl_DrawWorkers (tabOf_cons (by kernel_rfl) sat_spec_DrawWorkers (tabOf_cons (by kernel_rfl) sat_laws_equalFrame (tabOf_cons (by kernel_rfl) sat_laws_equalColors (tabOf_cons (by kernel_rfl) sat_impl_DrawScene tabOf_nil))))))
set_option maxHeartbeats 4000000 in
theorem sat_laws_FnDrawWorkers_0 : Sat Tryz.prog rt0 3 spLaw := by
  refine fn_sat hm ttok (tab := tb3) tb3_ok Tryz.func3 (c := Tryz.f3.body.getD .skip) (by kernel_rfl) (ts := [.tmp 2]) (by kernel_rfl) Tryz.ntmps3 (sq := fun _ => true) (by kernel_rfl) ?_
  intro args ins pk hpre0 hpk
  obtain ⟨rfl, hpre0⟩ := hpre0
  obtain ⟨code, rfl, hpre, hdec⟩ := famPre_ex hpre0
  clear hpre0 hdec
  try simp only [spLaw_pre] at hpre
  replace hpk : pk + 100000 ≤ pickLimit := hpk
  refine ⟨nle rfl, ?_⟩
  simp (maxSteps := 1000000) only [go_sem, Tryz.f3, tb3_6, tb3_7, tb3_8, tb3_9, tb3_10, tb3_11, spLaw_q, spLaw_A, spLaw_pre, spLaw_post, spDDW_q, spDDW_A, spDDW_pre, spDDW_post, spDWk_q, spDWk_A, spDWk_pre, spDWk_post, spEqF_q, spEqF_A, spEqF_pre, spEqF_post, spEqC_q, spEqC_A, spEqC_pre, spEqC_post, spDrawS_q, spDrawS_A, spDrawS_pre, spDrawS_post]
  repeat' first | apply And.intro | intro _ | omega | assumption | with_reducible rfl
  all_goals (first | (exact (‹okScn _›).fs) | (exact dw_lenD _ _ _) | (exact Nat.le_trans (dw_len _ _ _) (by decide)) | (exact Nat.le_trans (drawV_len _) (by decide)) | omega | ((rw [dwF_y ‹dwV _ _ _ = true›]); done) | (exact absurd (by rw [dwF_y ‹dwV _ _ _ = true›]) ‹¬ (dwF _ _ _).w = _›) | (exact absurd (by rw [dwF_y ‹dwV _ _ _ = true›]) ‹¬ (dwF _ _ _).px = _›) | (skip; done))
end Go.Proofs.YtcejoknapbhloaaGreat
