/- Contracts of functions of the program vectorraster, each proved for all states that fit its description. No conditions. -/
import Derived.Test.YthphndhiacikaaaGreatDoorPSA
import Derived.Test.YthphndhiacikaaaGreatDoorT3Z9
import Derived.Test.YthphndhiacikaaaGreatDoorPQ
set_option linter.unusedSimpArgs false
set_option linter.unusedVariables false
set_option maxRecDepth 100000
namespace Go.Proofs.YthphndhiacikaaaGreatDoor
open Go Go.VE
section
theorem col_f {e g b a : Int} (h : ¬ ((0 ≤ e ∧ e ≤ 255) ∧ (0 ≤ g ∧ g ≤ 255) ∧ (0 ≤ b ∧ b ≤ 255) ∧ 0 ≤ a ∧ a ≤ 255)) : colOk e g b a = false := by
  cases hc : colOk e g b a with
  | false => rfl
  | true => exact absurd (colOk_iff.1 hc) h
def tb68 : Nat → Option VE.Spec := tabOf [(38, wkIn spIn), (98, wkIn spRnd)]
theorem tb68_38 : tb68 38 = some (wkIn spIn) := rfl
theorem tb68_98 : tb68 98 = some (wkIn spRnd) := rfl
theorem tb68_ok : TabOK Tryz.prog rt0 tb68 := (tabOf_cons (by kernel_rfl) sat_impl_in (tabOf_cons (by kernel_rfl) sat_impl_round tabOf_nil))
section
attribute [local go_sem] Tryz.f68 tb68_38 tb68_98 spColOf_q spColOf_A spColOf_pre spColOf_post spIn_q spIn_A spIn_pre spIn_post spRnd_q spRnd_A spRnd_pre spRnd_post
set_option maxHeartbeats 4000000 in
theorem sat_impl_ColorOf_0 : Sat Tryz.prog rt0 68 (wkOut spColOf) := by
  refine fn_sat hm ttok (tab := tb68) tb68_ok Tryz.func68 (c := Tryz.f68.body.getD .skip) (by kernel_rfl) (ts := [.cell 8 73, .tmp 9]) (by kernel_rfl) Tryz.ntmps68 (sq := fun _ => true) (by kernel_rfl) ?_
  intro args ins pk hpre0 hpk
  obtain ⟨rfl, hpre0⟩ := hpre0
  obtain ⟨⟨e, g, b, a⟩, rfl, hpre, hdec⟩ := famPre_ex hpre0
  clear hpre0 hdec
  try simp only [spColOf_pre] at hpre
  replace hpk : pk + 0 ≤ pickLimit := hpk
  refine ⟨nle rfl, ?_⟩
  simp (maxSteps := 1000000) only [go_sem, plainC]
  repeat' first | apply And.intro | intro _ | omega | assumption | with_reducible rfl
  any_goals
    refine loopS (α := Int) false [4, 5, 6, 7, 9, 10, 11, 12, 13, 14, 15, 18, 19, 20, 21, 22, 23, 24, 25, 26] (fun σ => []) (fun σ x => [(18, I x)]) (fun σ x => []) (fun i => 0) (fun σ => gI (σ.get 18)) (fun σ τ => []) (fun i => (0 ≤ i ∧ i ≤ 4) ∧ (1 ≤ i → 0 ≤ e ∧ e ≤ 255) ∧ (2 ≤ i → 0 ≤ g ∧ g ≤ 255) ∧ (3 ≤ i → 0 ≤ b ∧ b ≤ 255) ∧ (4 ≤ i → 0 ≤ a ∧ a ≤ 255)) (fun i => (4 - i).toNat) ⟨by (simp (maxSteps := 1000000) only [go_sem, plainC, Int.reduceToNat]; (repeat' first | apply And.intro | intro _ | omega | assumption | with_reducible rfl); all_goals (first | omega | skip)), ?_⟩
    rintro i hinv
    try dsimp only at hinv
    have h5 : i = 0 ∨ i = 1 ∨ i = 2 ∨ i = 3 ∨ i = 4 := by omega
    rcases h5 with rfl | rfl | rfl | rfl | rfl
    all_goals (simp (maxSteps := 1000000) only [go_sem, plainC, Int.reduceToNat])
    repeat' first | apply And.intro | intro _ | omega | assumption | with_reducible rfl
  
  all_goals (first | omega | ((have m1 := mul_bd (m := 1000) (n := 1000) (show -1000 ≤ e by omega) (by omega) (show -1000 ≤ a by omega) (by omega); have m2 := mul_bd (m := 1000) (n := 1000) (show -1000 ≤ g by omega) (by omega) (show -1000 ≤ a by omega) (by omega); have m3 := mul_bd (m := 1000) (n := 1000) (show -1000 ≤ b by omega) (by omega) (show -1000 ≤ a by omega) (by omega); omega); done) | (exact (col_f (by omega)).symm) | (exact (colOk_iff.2 (by omega)).symm) | ((have h9 := col_f (e := e) (g := g) (b := b) (a := a) (by omega); rw [h9]; rfl); done) | ((have h9 := colOk_iff.2 (show (0 ≤ e ∧ e ≤ 255) ∧ (0 ≤ g ∧ g ≤ 255) ∧ (0 ≤ b ∧ b ≤ 255) ∧ 0 ≤ a ∧ a ≤ 255 by omega); rw [h9]; rfl); done) | (skip; done))
end
theorem sat_impl_ColorOf : Sat Tryz.prog rt0 68 (wkIn spColOf) := sat_in (sat_out sat_impl_ColorOf_0)
end
section
def spCloneF_A : (List Fil) → List AV
  | l => [.c (.sl false (l.map flC))]
def spCloneF_pre : (List Fil) → Prop
  | l => l.length ≤ 1000000
def spCloneF_post : (List Fil) → AV → List Box → Prop
  | l, r, bs => r = .c (.own 0 (l).length false) ∧ bs = [⟨(l).map flC, 7, 129, true, false⟩]
def spCloneF : VE.Spec := famSpec spCloneF_A d_lfl spCloneF_pre spCloneF_post 0 false
theorem spCloneF_q : SpQ spCloneF false [] false 0 (fun a i => i = [] ∧ famPre d_lfl spCloneF_A spCloneF_pre a) (fun a i r b => famPost d_lfl spCloneF_post a r b) := ⟨rfl, rfl, rfl, rfl, fun _ _ => rfl, fun _ _ _ _ => rfl⟩
theorem nil_ofF {l : List Fil} {b : Bool} (h : ¬ List.map flC l = [] → b = false) (hb : b = true) : l = [] := by
  by_cases e : List.map flC l = []
  · exact List.map_eq_nil_iff.1 e
  · rw [h e] at hb; cases hb
def tb100 : Nat → Option VE.Spec := tabOf []
theorem tb100_ok : TabOK Tryz.prog rt0 tb100 := tabOf_nil
set_option maxHeartbeats 4000000 in
theorem sat_slices_Clone_impl_Fill_impl_Fill_0 : Sat Tryz.prog rt0 100 (wkOut spCloneF) := by
  refine fn_sat hm ttok (tab := tb100) tb100_ok Tryz.func100 (c := Tryz.f100.body.getD .skip) (by kernel_rfl) (ts := [.tmp 2]) (by kernel_rfl) Tryz.ntmps100 (sq := fun _ => true) (by kernel_rfl) ?_
  intro args ins pk hpre0 hpk
  obtain ⟨rfl, hpre0⟩ := hpre0
  obtain ⟨l, rfl, hpre, hdec⟩ := famPre_ex hpre0
  clear hpre0 hdec
  try simp only [spCloneF_pre] at hpre
  replace hpk : pk + 0 ≤ pickLimit := hpk
  refine ⟨nle rfl, ?_⟩
  simp (maxSteps := 1000000) only [go_sem, Tryz.f100, spCloneF_q, spCloneF_A, spCloneF_pre, spCloneF_post]
  repeat' first | apply And.intro | intro _ | omega | assumption | with_reducible rfl
  all_goals (first | ((obtain rfl := nil_ofF (l := l) ‹_› ‹_›; rfl); done))
theorem sat_slices_Clone_impl_Fill_impl_Fill : Sat Tryz.prog rt0 100 (wkIn spCloneF) := sat_in (sat_out sat_slices_Clone_impl_Fill_impl_Fill_0)
def spFillI_A : Ses × ByteArray → List AV
  | (t, x) => [.c (.ptr 0 1 0 0), .c (.v (.string x))]
def spFillI_B : Ses × ByteArray → List Box
  | (t, x) => [⟨[seC t], 8, 75, false, false⟩]
def spFillI_d : List AV → List Box → Option (Ses × ByteArray)
  | [.c (.ptr 0 1 0 0), .c (.v (.string a0))], [⟨[e], _, _, _, _⟩] => match seCd e with
    | some t => some (t, a0)
    | _ => none
  | _, _ => none
def spFillI_pre : Ses × ByteArray → Prop
  | (t, x) => okSes t ∧ x.size ≤ 1000000000
def spFillI_post : Ses × ByteArray → AV → List Box → Prop
  | (t, x), r, bs => r = B (fillOk t x) ∧ bs = [⟨[seC (fillT t x)], 8, 75, false, false⟩]
def spFillI : VE.Spec := famSpecM spFillI_A spFillI_B spFillI_d spFillI_pre spFillI_post 0 false [true] true
theorem spFillI_q : SpQ spFillI false [true] true 0 (fun a i => famPreM spFillI_d spFillI_A spFillI_B spFillI_pre a i) (fun a i r b => famPostM spFillI_d spFillI_post a i r b) := ⟨rfl, rfl, rfl, rfl, fun _ _ => rfl, fun _ _ _ _ => rfl⟩
def tb71 : Nat → Option VE.Spec := tabOf [(9, wkIn spPP), (100, wkIn spCloneF), (101, wkIn spVScn)]
theorem tb71_9 : tb71 9 = some (wkIn spPP) := rfl
theorem tb71_100 : tb71 100 = some (wkIn spCloneF) := rfl
theorem tb71_101 : tb71 101 = some (wkIn spVScn) := rfl
theorem tb71_ok : TabOK Tryz.prog rt0 tb71 := (tabOf_cons (by kernel_rfl) sat_impl_ParsePath (tabOf_cons (by kernel_rfl) sat_slices_Clone_impl_Fill_impl_Fill (tabOf_cons (by kernel_rfl) sat_impl_ValidScene tabOf_nil)))
section
attribute [local go_sem] Tryz.f71 tb71_9 tb71_100 tb71_101 spFillI_q spFillI_A spFillI_B spFillI_d spFillI_pre spFillI_post spPP_q spPP_A spPP_pre spPP_post spCloneF_q spCloneF_A spCloneF_pre spCloneF_post spVScn_q spVScn_A spVScn_pre spVScn_post
set_option maxHeartbeats 4000000 in
theorem sat_impl_session_fill_0 : Sat Tryz.prog rt0 71 (wkOut spFillI) := by
  refine fn_sat hm ttok (tab := tb71) tb71_ok Tryz.func71 (c := Tryz.f71.body.getD .skip) (by kernel_rfl) (ts := [.tmp 4]) (by kernel_rfl) Tryz.ntmps71 (sq := fun id => !(id == 3)) (by kernel_rfl) ?_
  intro args ins pk hpre0 hpk
  obtain ⟨⟨t, x⟩, rfl, rfl, hpre, hdec⟩ := famPreM_ex hpre0
  clear hpre0 hdec
  try simp only [spFillI_pre] at hpre
  replace hpk : pk + 0 ≤ pickLimit := hpk
  refine ⟨nle rfl, ?_⟩
  simp (maxSteps := 1000000) only [go_sem, flC_lit]
  repeat' first | apply And.intro | intro _ | omega | assumption | with_reducible rfl
  all_goals try (refine drawI (pF 0 (pF 1 (pF 3 (pF 4 (pF 5 (pF 6 (pF 7 (pF 8 (pF 9 (pF 10 (pF 11 (pF 12 (pA 2 (pA 13 (pF 14 (pF 15 (pA 16 (pA 17 (pF 18 (pA 19 pN pN)) pN) pN))) pN) (pA 13 (pF 14 (pF 15 (pA 2 (pA 16 (pA 17 (pF 18 (pA 19 pN pN)) pN) pN) (pA 16 (pA 2 (pA 17 (pF 18 (pA 19 pN pN)) pN) pN) pN)))) pN)))))))))))))) (by decide +kernel) ?_; simp (maxSteps := 1000000) only [go_sem, planW, stepW, Go.VE.stepT, Go.VE.clearO, flC_lit]; repeat' first | apply And.intro | intro _ | omega | assumption | with_reducible rfl)
  all_goals (first | (exact trivial) | (exact (fill_yes (t := t) ‹_› ‹vScn _ = true›).symm) | (exact (fill_no2 (t := t) ‹vScn _ = false›).symm) | (exact (fill_no1 ‹_›).symm) | (exact (fillT_no (fill_no1 ‹_›)).symm) | (exact (fillT_no (fill_no2 (t := t) ‹vScn _ = false›)).symm) | ((have h9 : t.s.fs.length ≤ 4 := hpre.1.len; omega); done) | omega | (exact addF_fs (t := t) hpre.1.fs hpre.1.len) | ((rw [fill_no1 ‹_›]; rfl); done) | ((rw [fill_no2 (t := t) ‹vScn _ = false›]; rfl); done) | ((rw [fill_yes (t := t) ‹_› ‹vScn _ = true›]; rfl); done) | ((rw [fillT_no (fill_no1 ‹_›)]; rfl); done) | ((rw [fillT_no (fill_no2 (t := t) ‹vScn _ = false›)]; rfl); done) | ((rw [fillT_yes (fill_yes (t := t) ‹_› ‹vScn _ = true›)]; rfl); done) | ((rw [fillT_yes (fill_yes (t := t) ‹_› ‹vScn _ = true›)]; simp only [addF, dkC, seC, scC, kd, ks, flOf, List.map_append, List.map_cons, List.map_nil]; rfl); done) | (skip; done))
end
theorem sat_impl_session_fill : Sat Tryz.prog rt0 71 (wkIn spFillI) := sat_in (sat_out sat_impl_session_fill_0)
end
end Go.Proofs.YthphndhiacikaaaGreatDoor
