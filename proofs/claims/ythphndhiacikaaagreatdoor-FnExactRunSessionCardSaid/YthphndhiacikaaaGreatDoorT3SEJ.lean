/- Contracts of functions of the program vectorraster, each proved for all states that fit its description. No conditions. -/
import Derived.Test.YthphndhiacikaaaGreatDoorT3SEI
import Derived.Test.YthphndhiacikaaaGreatDoorPL
set_option maxRecDepth 100000
set_option linter.unusedSimpArgs false
set_option linter.unusedVariables false
namespace Go.Proofs.YthphndhiacikaaaGreatDoor
open Go Go.VE
def spLawS_A : (List ByteArray) → List AV
  | l => [.c (.sl false (l.map sC))]
def spLawS_pre : (List ByteArray) → Prop
  | l => l.length ≤ 9223372036854775807 ∧ SzL 9223372036854775807 l
def spLawS_post : (List ByteArray) → AV → List Box → Prop
  | l, r, bs => r = B (true) ∧ bs = []
def spLawS : VE.Spec := famSpec spLawS_A d_ls spLawS_pre spLawS_post 0 true
theorem spLawS_q : SpQ spLawS true [] false 0 (fun a i => i = [] ∧ famPre d_ls spLawS_A spLawS_pre a) (fun a i r b => famPost d_ls spLawS_post a r b) := ⟨rfl, rfl, rfl, rfl, fun _ _ => rfl, fun _ _ _ _ => rfl⟩
def tb7 : Nat → Option VE.Spec := tabOf [(17, wkIn spSzS), (18, wkIn spToSL), (16, wkIn spRun), (15, wkIn spRun), (19, wkIn spEqSL)]
theorem tb7_17 : tb7 17 = some (wkIn spSzS) := rfl
theorem tb7_18 : tb7 18 = some (wkIn spToSL) := rfl
theorem tb7_16 : tb7 16 = some (wkIn spRun) := rfl
theorem tb7_15 : tb7 15 = some (wkIn spRun) := rfl
theorem tb7_19 : tb7 19 = some (wkIn spEqSL) := rfl
theorem tb7_ok : TabOK Tryz.prog rt0 tb7 := (tabOf_cons (by kernel_rfl) sat_laws_szStringS (tabOf_cons (by kernel_rfl) sat_laws_toStringS (tabOf_cons (by kernel_rfl) sat_spec_RunSession (tabOf_cons (by kernel_rfl) sat_impl_RunSession (tabOf_cons (by kernel_rfl) sat_laws_eqStringS tabOf_nil)))))
set_option maxHeartbeats 4000000 in
theorem sat_laws_FnExactRunSession_0 : Sat Tryz.prog rt0 7 spLawS := by
  refine fn_sat hm ttok (tab := tb7) tb7_ok Tryz.func7 (c := Tryz.f7.body.getD .skip) (by kernel_rfl) (ts := [.tmp 2]) (by kernel_rfl) Tryz.ntmps7 (sq := fun _ => true) (by kernel_rfl) ?_
  intro args ins pk hpre0 hpk
  obtain ⟨rfl, hpre0⟩ := hpre0
  obtain ⟨l, rfl, hpre, hdec⟩ := famPre_ex hpre0
  clear hpre0 hdec
  try simp only [spLawS_pre] at hpre
  replace hpk : pk + 0 ≤ pickLimit := hpk
  refine ⟨nle rfl, ?_⟩
  simp (maxSteps := 1000000) only [go_sem, Tryz.f7, tb7_17, tb7_18, tb7_16, tb7_15, tb7_19, spLawS_q, spLawS_A, spLawS_pre, spLawS_post, spSzS_q, spSzS_A, spSzS_pre, spSzS_post, spToSL_q, spToSL_A, spToSL_pre, spToSL_post, spRun_q, spRun_A, spRun_pre, spRun_post, spEqSL_q, spEqSL_A, spEqSL_pre, spEqSL_post]
  repeat' first | apply And.intro | intro _ | omega | assumption | with_reducible rfl
  all_goals (first | (exact hpre.2) | omega | ((have h9 := szR_ok ‹_›; omega); done) | (exact (szR_ok ‹_›).2.mono (by decide)) | ((simp_all; done); done) | (skip; done))
end Go.Proofs.YthphndhiacikaaaGreatDoor
