/- Contracts of functions of the program vectorraster, each proved for all states that fit its description. No conditions. -/
import Derived.Test.YthphndhiacikaaaGreatDoorT3SEE
import Derived.Test.YthphndhiacikaaaGreatDoorT3SED
import Derived.Test.YthphndhiacikaaaGreatDoorPSC
import Derived.Test.YthphndhiacikaaaGreatDoorPH
set_option maxRecDepth 100000
set_option linter.unusedSimpArgs false
set_option linter.unusedVariables false
namespace Go.Proofs.YthphndhiacikaaaGreatDoor
open Go Go.VE
def tb6 : Nat → Option VE.Spec := tabOf [(14, wkIn spDRS), (15, wkIn spRun), (16, wkIn spRun)]
theorem tb6_14 : tb6 14 = some (wkIn spDRS) := rfl
theorem tb6_15 : tb6 15 = some (wkIn spRun) := rfl
theorem tb6_16 : tb6 16 = some (wkIn spRun) := rfl
theorem tb6_ok : TabOK Tryz.prog rt0 tb6 := (tabOf_cons (by kernel_rfl) sat_spec_DrawRunSession (tabOf_cons (by kernel_rfl) sat_impl_RunSession (tabOf_cons (by kernel_rfl) sat_spec_RunSession tabOf_nil)))
section
attribute [local go_sem] Tryz.f6 tb6_14 tb6_15 tb6_16 spLaw_q spLaw_A spLaw_pre spLaw_post spDRS_q spDRS_A spDRS_pre spDRS_post spRun_q spRun_A spRun_pre spRun_post
set_option maxHeartbeats 4000000 in
theorem sat_laws_FnSessionPrefix_0 : Sat Tryz.prog rt0 6 spLaw := by
  refine fn_sat hm ttok (tab := tb6) tb6_ok Tryz.func6 (c := Tryz.f6.body.getD .skip) (by kernel_rfl) (ts := [.tmp 2]) (by kernel_rfl) Tryz.ntmps6 (sq := fun _ => true) (by kernel_rfl) ?_
  intro args ins pk hpre0 hpk
  obtain ⟨rfl, hpre0⟩ := hpre0
  obtain ⟨code, rfl, hpre, hdec⟩ := famPre_ex hpre0
  clear hpre0 hdec
  try simp only [spLaw_pre] at hpre
  replace hpk : pk + 100000 ≤ pickLimit := hpk
  refine ⟨nle rfl, ?_⟩
  simp (maxSteps := 1000000) only [go_sem]
  repeat' first | apply And.intro | intro _ | omega | assumption | with_reducible rfl
  any_goals
    rename_i c hc0 hc hs
    have hrl := fun n => runS_le c n
    refine loopS (α := Int) false [0, 1, 2, 5, 6, 7, 8, 9, 10, 11, 12, 13, 14, 15, 16, 17, 18, 19, 20, 21, 22, 23, 24, 25, 26, 27, 28, 29, 30, 31, 32, 33, 34, 35, 36, 37, 38, 39, 40] (fun σ => []) (fun σ x => [(5, I x)]) (fun σ x => []) (fun i => 0) (fun σ => gI (σ.get 5)) (fun σ τ => []) (fun i => 0 ≤ i ∧ i ≤ c.length) (fun i => (c.length - i).toNat) ⟨by (simp (maxSteps := 1000000) only [go_sem]; (repeat' first | apply And.intro | intro _ | omega | assumption | with_reducible rfl)), ?_⟩
    rintro i hinv
    try dsimp only at hinv
    simp (maxSteps := 1000000) only [go_sem]
    repeat' first | apply And.intro | intro _ | omega | assumption | with_reducible rfl
  all_goals (first | omega | ((have h9 : SzL 200 _ := ‹SzL 200 _›; exact h9.mono (by decide)); done) | ((exact (SzL.take ‹SzL 200 _› _).mono (by decide)); done) | (exact SzL.app ((‹SzL 200 _›).mono (by decide)) (SzL.lit rfl)) | ((rw [List.length_take]; omega); done) | ((have h9 := hrl i.toNat; omega); done) | (exact ‹¬ _ = _› (runS_pre c i.toNat)) | ((rename_i k _ _ _ _ _; rw [run_new (l := k) (by omega), ext_suf]); done) | ((rename_i k _ _ _ _ hle; rw [run_new (l := k) (by omega), ByteArray.size_append] at hle; omega); done) | ((rename_i k _ _ _ _ _; rw [run_fill (l := k) (by omega), ext_suf]); done) | ((rename_i k _ _ _ _ hle; rw [run_fill (l := k) (by omega), ByteArray.size_append] at hle; omega); done) | (skip; done))
end
end Go.Proofs.YthphndhiacikaaaGreatDoor
