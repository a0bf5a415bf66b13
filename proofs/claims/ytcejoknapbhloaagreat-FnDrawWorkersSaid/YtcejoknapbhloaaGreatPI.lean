/- Contracts of functions of the program vectorraster, each proved for all states that fit its description. No conditions. -/
import Derived.Test.YtcejoknapbhloaaGreatPG
import Derived.Test.YtcejoknapbhloaaGreatKK
set_option linter.unusedSimpArgs false
set_option linter.unusedVariables false
set_option maxRecDepth 100000
namespace Go.Proofs.YtcejoknapbhloaaGreat
open Go Go.VE
theorem nil_of {l : List Pt} {b : Bool} (h : ¬ List.map ptC l = [] → b = false) (hb : b = true) : l = [] := by
  by_cases e : List.map ptC l = []
  · exact List.map_eq_nil_iff.1 e
  · rw [h e] at hb; cases hb
def spClone_A : (List Pt) → List AV
  | l => [.c (.sl false (l.map ptC))]
def spClone_pre : (List Pt) → Prop
  | l => l.length ≤ 1000000000
def spClone_post : (List Pt) → AV → List Box → Prop
  | l, r, bs => r = .c (.own 0 (l).length false) ∧ bs = [⟨(l).map ptC, 2, 40, true, false⟩]
def spClone : VE.Spec := famSpec spClone_A d_lpt spClone_pre spClone_post 0 false
theorem spClone_q : SpQ spClone false [] false 0 (fun a i => i = [] ∧ famPre d_lpt spClone_A spClone_pre a) (fun a i r b => famPost d_lpt spClone_post a r b) := ⟨rfl, rfl, rfl, rfl, fun _ _ => rfl, fun _ _ _ _ => rfl⟩
def tb152 : Nat → Option VE.Spec := tabOf []
theorem tb152_ok : TabOK Tryz.prog rt0 tb152 := tabOf_nil
set_option maxHeartbeats 4000000 in
theorem sat_slices_Clone_impl_Point_impl_Point_0 : Sat Tryz.prog rt0 152 (wkOut spClone) := by
  refine fn_sat hm ttok (tab := tb152) tb152_ok Tryz.func152 (c := Tryz.f152.body.getD .skip) (by kernel_rfl) (ts := [.tmp 2]) (by kernel_rfl) Tryz.ntmps152 (sq := fun _ => true) (by kernel_rfl) ?_
  intro args ins pk hpre0 hpk
  obtain ⟨rfl, hpre0⟩ := hpre0
  obtain ⟨l, rfl, hpre, hdec⟩ := famPre_ex hpre0
  clear hpre0 hdec
  try simp only [spClone_pre] at hpre
  replace hpk : pk + 0 ≤ pickLimit := hpk
  refine ⟨nle rfl, ?_⟩
  simp (maxSteps := 1000000) only [go_sem, Tryz.f152, spClone_q, spClone_A, spClone_pre, spClone_post]
  repeat' first | apply And.intro | intro _ | omega | assumption | with_reducible rfl
  all_goals (first | ((obtain rfl := nil_of (l := l) ‹_› ‹_›; rfl); done))
theorem sat_slices_Clone_impl_Point_impl_Point : Sat Tryz.prog rt0 152 (wkIn spClone) := sat_in (sat_out sat_slices_Clone_impl_Point_impl_Point_0)
def spClip_A : List Pt → List AV := fun l => [.c (.own 0 l.length false)]
def spClip_B : List Pt → List Box := fun l => [⟨l.map ptC, 2, 40, true, false⟩]
def spClip_d : List AV → List Box → Option (List Pt)
  | [.c (.own 0 _ false)], [⟨es, _, _, _, _⟩] => decAll ptCd es
  | _, _ => none
def spClip_pre : List Pt → Prop := fun l => l.length ≤ 1000000000
def spClip_post : List Pt → AV → List Box → Prop := fun l r bs => r = .c (.own 0 (l).length false) ∧ bs = [⟨(l).map ptC, 2, 40, true, false⟩]
def spClip : VE.Spec := famSpecM spClip_A spClip_B spClip_d spClip_pre spClip_post 0 false [true] false
theorem spClip_q : SpQ spClip false [true] false 0 (fun a i => famPreM spClip_d spClip_A spClip_B spClip_pre a i) (fun a i r b => famPostM spClip_d spClip_post a i r b) := ⟨rfl, rfl, rfl, rfl, fun _ _ => rfl, fun _ _ _ _ => rfl⟩
def tb151 : Nat → Option VE.Spec := tabOf []
theorem tb151_ok : TabOK Tryz.prog rt0 tb151 := tabOf_nil
set_option maxHeartbeats 4000000 in
theorem sat_slices_Clip_impl_Point_impl_Point_0 : Sat Tryz.prog rt0 151 (wkOut spClip) := by
  refine fn_sat hm ttok (tab := tb151) tb151_ok Tryz.func151 (c := Tryz.f151.body.getD .skip) (by kernel_rfl) (ts := [.tmp 2]) (by kernel_rfl) Tryz.ntmps151 (sq := fun _ => true) (by kernel_rfl) ?_
  intro args ins pk hpre0 hpk
  obtain ⟨l, rfl, rfl, hpre, hdec⟩ := famPreM_ex hpre0
  clear hpre0 hdec
  try simp only [spClip_pre] at hpre
  replace hpk : pk + 0 ≤ pickLimit := hpk
  refine ⟨nle rfl, ?_⟩
  simp (maxSteps := 1000000) only [go_sem, Tryz.f151, spClip_q, spClip_A, spClip_B, spClip_d, spClip_pre, spClip_post]
  repeat' first | apply And.intro | intro _ | omega | assumption | with_reducible rfl
  all_goals (first | omega)
theorem sat_slices_Clip_impl_Point_impl_Point : Sat Tryz.prog rt0 151 (wkIn spClip) := sat_in (sat_out sat_slices_Clip_impl_Point_impl_Point_0)
def tb115 : Nat → Option VE.Spec := tabOf [(152, wkIn spClone), (151, wkIn spClip)]
theorem tb115_152 : tb115 152 = some (wkIn spClone) := rfl
theorem tb115_151 : tb115 151 = some (wkIn spClip) := rfl
theorem tb115_ok : TabOK Tryz.prog rt0 tb115 := (tabOf_cons (by kernel_rfl) sat_slices_Clone_impl_Point_impl_Point (tabOf_cons (by kernel_rfl) sat_slices_Clip_impl_Point_impl_Point tabOf_nil))
set_option maxHeartbeats 4000000 in
theorem sat_impl_clone_impl_Point_0 : Sat Tryz.prog rt0 115 (wkOut spClone) := by
  refine fn_sat hm ttok (tab := tb115) tb115_ok Tryz.func115 (c := Tryz.f115.body.getD .skip) (by kernel_rfl) (ts := [.tmp 2]) (by kernel_rfl) Tryz.ntmps115 (sq := fun _ => true) (by kernel_rfl) ?_
  intro args ins pk hpre0 hpk
  obtain ⟨rfl, hpre0⟩ := hpre0
  obtain ⟨l, rfl, hpre, hdec⟩ := famPre_ex hpre0
  clear hpre0 hdec
  try simp only [spClone_pre] at hpre
  replace hpk : pk + 0 ≤ pickLimit := hpk
  refine ⟨nle rfl, ?_⟩
  simp (maxSteps := 1000000) only [go_sem, Tryz.f115, tb115_152, tb115_151, spClone_q, spClone_A, spClone_pre, spClone_post, spClip_q, spClip_A, spClip_B, spClip_d, spClip_pre, spClip_post]
  repeat' first | apply And.intro | intro _ | omega | assumption | with_reducible rfl
  all_goals (first | omega)
theorem sat_impl_clone_impl_Point : Sat Tryz.prog rt0 115 (wkIn spClone) := sat_in (sat_out sat_impl_clone_impl_Point_0)
theorem set_same {α : Type} {o : List α} {n : Nat} {p : α} (h : o[n]? = some p) (q : α) : (o.set n q)[n]? = some q := by
  rw [List.getElem?_set_self (List.getElem?_eq_some_iff.1 h).1]
end Go.Proofs.YtcejoknapbhloaaGreat
