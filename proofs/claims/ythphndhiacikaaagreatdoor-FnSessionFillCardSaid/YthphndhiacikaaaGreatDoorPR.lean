/- Contracts of functions of the program vectorraster, each proved for all states that fit its description. No conditions. -/
import Derived.Test.YthphndhiacikaaaGreatDoorPQ
import Derived.Test.YthphndhiacikaaaGreatDoorPD
import Derived.Test.YthphndhiacikaaaGreatDoorPA
import Derived.Test.YthphndhiacikaaaGreatDoorPE
set_option linter.unusedSimpArgs false
set_option linter.unusedVariables false
set_option maxRecDepth 100000
namespace Go.Proofs.YthphndhiacikaaaGreatDoor
open Go Go.VE
def rnd (a b : Int) : Int := (2 * a + b) / (2 * b)
def plainC (r g b a : Int) : Colr := ⟨rnd (r * a) 255, rnd (g * a) 255, rnd (b * a) 255, a⟩
def spRnd_A : Int × Int → List AV
  | (a, b) => [I a, I b]
def spRnd_pre : Int × Int → Prop
  | (a, b) => 1 ≤ b ∧ b ≤ 1000000000000 ∧ -1000000000000 ≤ a ∧ a ≤ 1000000000000
def spRnd_post : Int × Int → AV → List Box → Prop
  | (a, b), r, bs => r = I (rnd a b) ∧ bs = []
def spRnd : VE.Spec := famSpec spRnd_A d_i_i spRnd_pre spRnd_post 0 true
theorem spRnd_q : SpQ spRnd true [] false 0 (fun a i => i = [] ∧ famPre d_i_i spRnd_A spRnd_pre a) (fun a i r b => famPost d_i_i spRnd_post a r b) := ⟨rfl, rfl, rfl, rfl, fun _ _ => rfl, fun _ _ _ _ => rfl⟩
def tb188 : Nat → Option VE.Spec := tabOf [(196, wkIn spFloor)]
theorem tb188_196 : tb188 196 = some (wkIn spFloor) := rfl
theorem tb188_ok : TabOK Tryz.prog rt0 tb188 := (tabOf_cons (by kernel_rfl) sat_spec_floorDiv tabOf_nil)
set_option maxHeartbeats 4000000 in
theorem sat_spec_nearest_0 : Sat Tryz.prog rt0 188 (wkOut spRnd) := by
  refine fn_sat hm ttok (tab := tb188) tb188_ok Tryz.func188 (c := Tryz.f188.body.getD .skip) (by kernel_rfl) (ts := [.tmp 4]) (by kernel_rfl) Tryz.ntmps188 (sq := fun _ => true) (by kernel_rfl) ?_
  intro args ins pk hpre0 hpk
  obtain ⟨rfl, hpre0⟩ := hpre0
  obtain ⟨⟨a, b⟩, rfl, hpre, hdec⟩ := famPre_ex hpre0
  clear hpre0 hdec
  try simp only [spRnd_pre] at hpre
  replace hpk : pk + 0 ≤ pickLimit := hpk
  refine ⟨nle rfl, ?_⟩
  simp (maxSteps := 1000000) only [go_sem, Tryz.f188, tb188_196, spRnd_q, spRnd_A, spRnd_pre, spRnd_post, spFloor_q, spFloor_A, spFloor_pre, spFloor_post]
  repeat' first | apply And.intro | intro _ | omega | assumption | with_reducible rfl
  all_goals (first | (rfl; done))
theorem sat_spec_nearest : Sat Tryz.prog rt0 188 (wkIn spRnd) := sat_in (sat_out sat_spec_nearest_0)
def tb98 : Nat → Option VE.Spec := tabOf [(131, wkIn spFloor)]
theorem tb98_131 : tb98 131 = some (wkIn spFloor) := rfl
theorem tb98_ok : TabOK Tryz.prog rt0 tb98 := (tabOf_cons (by kernel_rfl) sat_impl_floor tabOf_nil)
set_option maxHeartbeats 4000000 in
theorem sat_impl_round_0 : Sat Tryz.prog rt0 98 (wkOut spRnd) := by
  refine fn_sat hm ttok (tab := tb98) tb98_ok Tryz.func98 (c := Tryz.f98.body.getD .skip) (by kernel_rfl) (ts := [.tmp 4]) (by kernel_rfl) Tryz.ntmps98 (sq := fun _ => true) (by kernel_rfl) ?_
  intro args ins pk hpre0 hpk
  obtain ⟨rfl, hpre0⟩ := hpre0
  obtain ⟨⟨a, b⟩, rfl, hpre, hdec⟩ := famPre_ex hpre0
  clear hpre0 hdec
  try simp only [spRnd_pre] at hpre
  replace hpk : pk + 0 ≤ pickLimit := hpk
  refine ⟨nle rfl, ?_⟩
  simp (maxSteps := 1000000) only [go_sem, Tryz.f98, tb98_131, spRnd_q, spRnd_A, spRnd_pre, spRnd_post, spFloor_q, spFloor_A, spFloor_pre, spFloor_post]
  repeat' first | apply And.intro | intro _ | omega | assumption | with_reducible rfl
  all_goals (first | (rfl; done))
theorem sat_impl_round : Sat Tryz.prog rt0 98 (wkIn spRnd) := sat_in (sat_out sat_impl_round_0)
def spPlain_A : Int × Int × Int × Int → List AV
  | (e, g, b, a) => [I e, I g, I b, I a]
def spPlain_pre : Int × Int × Int × Int → Prop
  | (e, g, b, a) => (0 ≤ e ∧ e ≤ 1000) ∧ (0 ≤ g ∧ g ≤ 1000) ∧ (0 ≤ b ∧ b ≤ 1000) ∧ 0 ≤ a ∧ a ≤ 1000
def spPlain_post : Int × Int × Int × Int → AV → List Box → Prop
  | (e, g, b, a), r, bs => r = .agg (coC (plainC e g b a)) ∧ bs = []
def spPlain : VE.Spec := famSpec spPlain_A d_i_i_i_i spPlain_pre spPlain_post 0 true
theorem spPlain_q : SpQ spPlain true [] false 0 (fun a i => i = [] ∧ famPre d_i_i_i_i spPlain_A spPlain_pre a) (fun a i r b => famPost d_i_i_i_i spPlain_post a r b) := ⟨rfl, rfl, rfl, rfl, fun _ _ => rfl, fun _ _ _ _ => rfl⟩
def tb173 : Nat → Option VE.Spec := tabOf [(188, wkIn spRnd)]
theorem tb173_188 : tb173 188 = some (wkIn spRnd) := rfl
theorem tb173_ok : TabOK Tryz.prog rt0 tb173 := (tabOf_cons (by kernel_rfl) sat_spec_nearest tabOf_nil)
set_option maxHeartbeats 4000000 in
theorem sat_spec_plain_0 : Sat Tryz.prog rt0 173 (wkOut spPlain) := by
  refine fn_sat hm ttok (tab := tb173) tb173_ok Tryz.func173 (c := Tryz.f173.body.getD .skip) (by kernel_rfl) (ts := [.cell 8 73]) (by kernel_rfl) Tryz.ntmps173 (sq := fun _ => true) (by kernel_rfl) ?_
  intro args ins pk hpre0 hpk
  obtain ⟨rfl, hpre0⟩ := hpre0
  obtain ⟨⟨e, g, b, a⟩, rfl, hpre, hdec⟩ := famPre_ex hpre0
  clear hpre0 hdec
  try simp only [spPlain_pre] at hpre
  replace hpk : pk + 0 ≤ pickLimit := hpk
  refine ⟨nle rfl, ?_⟩
  have m1 := mul_bd (m := 1000) (n := 1000) (show -1000 ≤ e by omega) (by omega) (show -1000 ≤ a by omega) (by omega)
  have m2 := mul_bd (m := 1000) (n := 1000) (show -1000 ≤ g by omega) (by omega) (show -1000 ≤ a by omega) (by omega)
  have m3 := mul_bd (m := 1000) (n := 1000) (show -1000 ≤ b by omega) (by omega) (show -1000 ≤ a by omega) (by omega)
  simp (maxSteps := 1000000) only [go_sem, Tryz.f173, tb173_188, spPlain_q, spPlain_A, spPlain_pre, spPlain_post, spRnd_q, spRnd_A, spRnd_pre, spRnd_post]
  repeat' first | apply And.intro | intro _ | omega | assumption | with_reducible rfl
  all_goals (first | (rfl; done))
theorem sat_spec_plain : Sat Tryz.prog rt0 173 (wkIn spPlain) := sat_in (sat_out sat_spec_plain_0)
end Go.Proofs.YthphndhiacikaaaGreatDoor
