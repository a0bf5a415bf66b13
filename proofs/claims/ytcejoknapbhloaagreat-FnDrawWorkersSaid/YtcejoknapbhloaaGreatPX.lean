/- Contracts of functions of the program vectorraster, each proved for all states that fit its description. No conditions. -/
import Derived.Test.YtcejoknapbhloaaGreatPR
import Derived.Test.YtcejoknapbhloaaGreatPW
set_option linter.unusedSimpArgs false
set_option linter.unusedVariables false
set_option maxRecDepth 100000
namespace Go.Proofs.YtcejoknapbhloaaGreat
open Go Go.VE
def spCpI_A : (List Int) → List AV
  | l => [.c (.sl false (l.map intC))]
def spCpI_pre : (List Int) → Prop
  | l => l.length ≤ 1000000
def spCpI_post : (List Int) → AV → List Box → Prop
  | l, r, bs => r = .c (.own 0 (l).length false) ∧ bs = [⟨(l).map intC, 1, 3, true, false⟩]
def spCpI : VE.Spec := famSpec spCpI_A d_li spCpI_pre spCpI_post 0 false
theorem spCpI_q : SpQ spCpI false [] false 0 (fun a i => i = [] ∧ famPre d_li spCpI_A spCpI_pre a) (fun a i r b => famPost d_li spCpI_post a r b) := ⟨rfl, rfl, rfl, rfl, fun _ _ => rfl, fun _ _ _ _ => rfl⟩
def tb162 : Nat → Option VE.Spec := tabOf []
theorem tb162_ok : TabOK Tryz.prog rt0 tb162 := tabOf_nil
set_option maxHeartbeats 4000000 in
theorem sat_spec_copyInts_0 : Sat Tryz.prog rt0 162 (wkOut spCpI) := by
  refine fn_sat hm ttok (tab := tb162) tb162_ok Tryz.func162 (c := Tryz.f162.body.getD .skip) (by kernel_rfl) (ts := [.tmp 2]) (by kernel_rfl) Tryz.ntmps162 (sq := fun _ => true) (by kernel_rfl) ?_
  intro args ins pk hpre0 hpk
  obtain ⟨rfl, hpre0⟩ := hpre0
  obtain ⟨l, rfl, hpre, hdec⟩ := famPre_ex hpre0
  clear hpre0 hdec
  try simp only [spCpI_pre] at hpre
  replace hpk : pk + 0 ≤ pickLimit := hpk
  refine ⟨nle rfl, ?_⟩
  simp (maxSteps := 1000000) only [go_sem, Tryz.f162, spCpI_q, spCpI_A, spCpI_pre, spCpI_post]
  repeat' first | apply And.intro | intro _ | omega | assumption | with_reducible rfl
  all_goals (first | (rfl; done))
theorem sat_spec_copyInts : Sat Tryz.prog rt0 162 (wkIn spCpI) := sat_in (sat_out sat_spec_copyInts_0)
end Go.Proofs.YtcejoknapbhloaaGreat
