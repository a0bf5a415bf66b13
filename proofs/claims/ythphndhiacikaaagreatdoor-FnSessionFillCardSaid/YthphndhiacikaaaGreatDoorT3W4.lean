/- Contracts of functions of the program vectorraster, each proved for all states that fit its description. No conditions. -/
import Derived.Test.YthphndhiacikaaaGreatDoorPC
import Derived.Test.YthphndhiacikaaaGreatDoorT3KY
import Derived.Test.YthphndhiacikaaaGreatDoorPD
set_option maxRecDepth 100000
set_option linter.unusedSimpArgs false
set_option linter.unusedVariables false
namespace Go.Proofs.YthphndhiacikaaaGreatDoor
open Go Go.VE
theorem of_size {l : List ByteArray} {x : ByteArray} (h : x ∈ l) {n : Nat} (hl : (l.all fun y => decide (y.size ≤ n)) = true) : x.size ≤ n := by
  have := List.all_eq_true.1 hl x h
  simpa using this
def spOf_A : (List ByteArray) → List AV
  | l => [.c .rdr, .c (.sl false (l.map sC))]
def spOf_pre : (List ByteArray) → Prop
  | l => 0 < l.length ∧ l.length ≤ 1000000
def spOf_post : (List ByteArray) → AV → List Box → Prop
  | l, r, bs => ∃ x, r = .c (.v (.string x)) ∧ bs = [] ∧ x ∈ l
def spOf : VE.Spec := famSpec spOf_A d_r_ls spOf_pre spOf_post 1 false
theorem spOf_q : SpQ spOf false [] false 1 (fun a i => i = [] ∧ famPre d_r_ls spOf_A spOf_pre a) (fun a i r b => famPost d_r_ls spOf_post a r b) := ⟨rfl, rfl, rfl, rfl, fun _ _ => rfl, fun _ _ _ _ => rfl⟩
def tb40 : Nat → Option VE.Spec := tabOf [(23, wkIn spPick)]
theorem tb40_23 : tb40 23 = some (wkIn spPick) := rfl
theorem tb40_ok : TabOK Tryz.prog rt0 tb40 := (tabOf_cons (by kernel_rfl) sat_spec_reader_pick tabOf_nil)
set_option maxHeartbeats 4000000 in
theorem sat_spec_reader_of_0 : Sat Tryz.prog rt0 40 (wkOut spOf) := by
  refine fn_sat hm ttok (tab := tb40) tb40_ok Tryz.func40 (c := Tryz.f40.body.getD .skip) (by kernel_rfl) (ts := [.tmp 4]) (by kernel_rfl) Tryz.ntmps40 (sq := fun _ => true) (by kernel_rfl) ?_
  intro args ins pk hpre0 hpk
  obtain ⟨rfl, hpre0⟩ := hpre0
  obtain ⟨l, rfl, hpre, hdec⟩ := famPre_ex hpre0
  clear hpre0 hdec
  try simp only [spOf_pre] at hpre
  replace hpk : pk + 1 ≤ pickLimit := hpk
  refine ⟨nle rfl, ?_⟩
  simp (maxSteps := 1000000) only [go_sem, Tryz.f40, tb40_23, spOf_q, spOf_A, spOf_pre, spOf_post, spPick_q, spPick_A, spPick_pre, spPick_post, Picks]
  repeat' first | apply And.intro | intro _ | omega | assumption | with_reducible rfl
  all_goals (first | ((exact ⟨_, rfl, List.mem_of_getElem? ‹_›⟩); done) | (grind; done))
theorem sat_spec_reader_of : Sat Tryz.prog rt0 40 (wkIn spOf) := sat_in (sat_out sat_spec_reader_of_0)
def spMut_A : ByteArray → List AV
  | x => [.c .rdr, .c (.v (.string x))]
def spMut_pre : ByteArray → Prop
  | x => x.size ≤ 1000000
def spMut_post : ByteArray → AV → List Box → Prop
  | x, r, bs => ∃ y, r = .c (.v (.string y)) ∧ bs = [] ∧ y.size ≤ x.size + 2
def spMut : VE.Spec := famSpec spMut_A d_r_s spMut_pre spMut_post 3 false
theorem spMut_q : SpQ spMut false [] false 3 (fun a i => i = [] ∧ famPre d_r_s spMut_A spMut_pre a) (fun a i r b => famPost d_r_s spMut_post a r b) := ⟨rfl, rfl, rfl, rfl, fun _ _ => rfl, fun _ _ _ _ => rfl⟩
def tb24 : Nat → Option VE.Spec := tabOf [(23, wkIn spPick), (40, wkIn spOf)]
theorem tb24_23 : tb24 23 = some (wkIn spPick) := rfl
theorem tb24_40 : tb24 40 = some (wkIn spOf) := rfl
theorem tb24_ok : TabOK Tryz.prog rt0 tb24 := (tabOf_cons (by kernel_rfl) sat_spec_reader_pick (tabOf_cons (by kernel_rfl) sat_spec_reader_of tabOf_nil))
section
attribute [local go_sem] Tryz.f24 tb24_23 tb24_40 spMut_q spMut_A spMut_pre spMut_post spPick_q spPick_A spPick_pre spPick_post spOf_q spOf_A spOf_pre spOf_post
set_option maxHeartbeats 4000000 in
theorem sat_spec_mutate_0 : Sat Tryz.prog rt0 24 (wkOut spMut) := by
  refine fn_sat hm ttok (tab := tb24) tb24_ok Tryz.func24 (c := Tryz.f24.body.getD .skip) (by kernel_rfl) (ts := [.tmp 4]) (by kernel_rfl) Tryz.ntmps24 (sq := fun id => !(id == 5)) (by kernel_rfl) ?_
  intro args ins pk hpre0 hpk
  obtain ⟨rfl, hpre0⟩ := hpre0
  obtain ⟨x, rfl, hpre, hdec⟩ := famPre_ex hpre0
  clear hpre0 hdec
  try simp only [spMut_pre] at hpre
  replace hpk : pk + 3 ≤ pickLimit := hpk
  refine ⟨nle rfl, ?_⟩
  simp (maxSteps := 1000000) only [go_sem, Picks]
  repeat' first | apply And.intro | intro _ | omega | assumption | with_reducible rfl
  all_goals try (refine drawI (pF 0 (pF 1 (pF 2 (pF 3 (pF 7 (pF 8 (pF 9 (pF 10 (pA 4 (pA 5 (pF 6 (pF 11 (pA 12 pN pN))) pN) pN))))))))) (by decide +kernel) ?_; simp (maxSteps := 1000000) only [go_sem, planW, stepW, Go.VE.stepT, Go.VE.clearO, Picks]; repeat' first | apply And.intro | intro _ | omega | assumption | with_reducible rfl)
  all_goals (first | omega | ((have h9 := of_size (n := 2) ‹_ ∈ _› rfl; omega); done) | ((exact ⟨_, rfl, by rw [ByteArray.size_extract]; omega⟩); done) | ((exact ⟨_, rfl, by omega⟩); done) | ((have h9 := of_size (n := 2) ‹_ ∈ _› rfl; exact ⟨_, rfl, by simp only [ByteArray.size_append, ByteArray.size_extract]; omega⟩); done) | ((have h9 := of_size (n := 2) ‹_ ∈ _› rfl; simp only [ByteArray.size_append, ByteArray.size_extract]; omega); done) | (skip; done))
end
theorem sat_spec_mutate : Sat Tryz.prog rt0 24 (wkIn spMut) := sat_in (sat_out sat_spec_mutate_0)
end Go.Proofs.YthphndhiacikaaaGreatDoor
