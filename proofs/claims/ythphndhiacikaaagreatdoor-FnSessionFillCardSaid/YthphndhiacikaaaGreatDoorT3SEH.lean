/- Contracts of functions of the program vectorraster, each proved for all states that fit its description. No conditions. -/
import Derived.Test.YthphndhiacikaaaGreatDoorT3SEE
import Derived.Test.YthphndhiacikaaaGreatDoorT3SED
import Derived.Test.YthphndhiacikaaaGreatDoorPSC
import Derived.Test.YthphndhiacikaaaGreatDoorPH
set_option maxRecDepth 100000
set_option linter.unusedSimpArgs false
set_option linter.unusedVariables false
namespace Go.Proofs.YthphndhiacikaaaGreatDoor
open Go Go.VE
def tb4 : Nat → Option VE.Spec := tabOf [(14, wkIn spDRS), (15, wkIn spRun), (16, wkIn spRun)]
theorem tb4_14 : tb4 14 = some (wkIn spDRS) := rfl
theorem tb4_15 : tb4 15 = some (wkIn spRun) := rfl
theorem tb4_16 : tb4 16 = some (wkIn spRun) := rfl
theorem tb4_ok : TabOK Tryz.prog rt0 tb4 := (tabOf_cons (by kernel_rfl) sat_spec_DrawRunSession (tabOf_cons (by kernel_rfl) sat_impl_RunSession (tabOf_cons (by kernel_rfl) sat_spec_RunSession tabOf_nil)))
set_option maxHeartbeats 4000000 in
theorem sat_laws_FnSessionFill_0 : Sat Tryz.prog rt0 4 spLaw := by
  refine fn_sat hm ttok (tab := tb4) tb4_ok Tryz.func4 (c := Tryz.f4.body.getD .skip) (by kernel_rfl) (ts := [.tmp 2]) (by kernel_rfl) Tryz.ntmps4 (sq := fun _ => true) (by kernel_rfl) ?_
  intro args ins pk hpre0 hpk
  obtain ⟨rfl, hpre0⟩ := hpre0
  obtain ⟨code, rfl, hpre, hdec⟩ := famPre_ex hpre0
  clear hpre0 hdec
  try simp only [spLaw_pre] at hpre
  replace hpk : pk + 100000 ≤ pickLimit := hpk
  refine ⟨nle rfl, ?_⟩
  simp (maxSteps := 1000000) only [go_sem, Tryz.f4, tb4_14, tb4_15, tb4_16, spLaw_q, spLaw_A, spLaw_pre, spLaw_post, spDRS_q, spDRS_A, spDRS_pre, spDRS_post, spRun_q, spRun_A, spRun_pre, spRun_post]
  repeat' first | apply And.intro | intro _ | omega | assumption | with_reducible rfl
  all_goals (first | omega | ((have h9 : SzL 200 _ := ‹SzL 200 _›; exact h9.mono (by decide)); done) | ((exact (SzL.take ‹SzL 200 _› _).mono (by decide)); done) | (exact SzL.app ((‹SzL 200 _›).mono (by decide)) (SzL.lit rfl)) | ((rw [List.length_take]; omega); done) | ((have h9 := hrl i.toNat; omega); done) | (exact ‹¬ _ = _› (runS_pre c i.toNat)) | ((rename_i k _ _ _ _ _; rw [run_new (l := k) (by omega), ext_suf]); done) | ((rename_i k _ _ _ _ hle; rw [run_new (l := k) (by omega), ByteArray.size_append] at hle; omega); done) | ((rename_i k _ _ _ _ _; rw [run_fill (l := k) (by omega), ext_suf]); done) | ((rename_i k _ _ _ _ hle; rw [run_fill (l := k) (by omega), ByteArray.size_append] at hle; omega); done) | (skip; done))
end Go.Proofs.YthphndhiacikaaaGreatDoor
