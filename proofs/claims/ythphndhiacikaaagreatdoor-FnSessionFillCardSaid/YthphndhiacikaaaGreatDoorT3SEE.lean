/- Contracts of functions of the program vectorraster, each proved for all states that fit its description. No conditions. -/
import Derived.Test.YthphndhiacikaaaGreatDoorPSC
import Derived.Test.YthphndhiacikaaaGreatDoorT3W4
import Derived.Test.YthphndhiacikaaaGreatDoorPD
set_option maxRecDepth 100000
set_option linter.unusedSimpArgs false
set_option linter.unusedVariables false
namespace Go.Proofs.YthphndhiacikaaaGreatDoor
open Go Go.VE
def spDRS_A : (List UInt8) → List AV
  | code => [.c (.sl false (byC code))]
def spDRS_pre : (List UInt8) → Prop
  | code => code.length ≤ 1048576
def spDRS_post : (List UInt8) → AV → List Box → Prop
  | code, r, bs => ∃ l : List ByteArray, r = .c (.sl false (l.map sC)) ∧ bs = [] ∧ (1 ≤ l.length ∧ l.length ≤ 11) ∧ SzL 200 l
def spDRS : VE.Spec := famSpecS spDRS_A d_ly spDRS_pre spDRS_post 80 false
theorem spDRS_q : SpQ spDRS false [] true 80 (fun a i => i = [] ∧ famPre d_ly spDRS_A spDRS_pre a) (fun a i r b => famPost d_ly spDRS_post a r b) := ⟨rfl, rfl, rfl, rfl, fun _ _ => rfl, fun _ _ _ _ => rfl⟩
theorem ex_set2 {o : List ByteArray} (h : SzL 200 o) (k : Nat) {x : ByteArray} (hx : x.size ≤ 200) (hl : 1 ≤ o.length ∧ o.length ≤ 11) : ∃ l : List ByteArray, wkEs ((List.map sC o).set k [C.v (.string x)]) = List.map sC l ∧ 1 ≤ l.length ∧ l.length ≤ 11 ∧ SzL 200 l :=
  ⟨o.set k x, by rw [show [C.v (.string x)] = sC x from rfl, ← List.map_set]; exact sC_wks _, by rw [List.length_set]; exact hl.1, by rw [List.length_set]; exact hl.2, h.set k hx⟩
def tb14 : Nat → Option VE.Spec := tabOf [(20, wkIn spNew), (40, wkIn spOf), (41, wkIn spOne), (23, wkIn spPick), (24, wkIn spMut)]
theorem tb14_20 : tb14 20 = some (wkIn spNew) := rfl
theorem tb14_40 : tb14 40 = some (wkIn spOf) := rfl
theorem tb14_41 : tb14 41 = some (wkIn spOne) := rfl
theorem tb14_23 : tb14 23 = some (wkIn spPick) := rfl
theorem tb14_24 : tb14 24 = some (wkIn spMut) := rfl
theorem tb14_ok : TabOK Tryz.prog rt0 tb14 := (tabOf_cons (by kernel_rfl) sat_spec_newReader (tabOf_cons (by kernel_rfl) sat_spec_reader_of (tabOf_cons (by kernel_rfl) sat_spec_reader_one (tabOf_cons (by kernel_rfl) sat_spec_reader_pick (tabOf_cons (by kernel_rfl) sat_spec_mutate tabOf_nil)))))
section
attribute [local go_sem] Tryz.f14 tb14_20 tb14_40 tb14_41 tb14_23 tb14_24 spDRS_q spDRS_A spDRS_pre spDRS_post spNew_q spOf_q spOf_A spOf_pre spOf_post spOne_q spOne_A spOne_pre spOne_post spPick_q spPick_A spPick_pre spPick_post spMut_q spMut_A spMut_pre spMut_post
set_option maxHeartbeats 4000000 in
theorem sat_spec_DrawRunSession_0 : Sat Tryz.prog rt0 14 (wkOut spDRS) := by
  refine fn_sat hm ttok (tab := tb14) tb14_ok Tryz.func14 (c := Tryz.f14.body.getD .skip) (by kernel_rfl) (ts := [.tmp 2]) (by kernel_rfl) Tryz.ntmps14 (sq := fun _ => true) (by kernel_rfl) ?_
  intro args ins pk hpre0 hpk
  obtain ⟨rfl, hpre0⟩ := hpre0
  obtain ⟨code, rfl, hpre, hdec⟩ := famPre_ex hpre0
  clear hpre0 hdec
  try simp only [spDRS_pre] at hpre
  replace hpk : pk + 80 ≤ pickLimit := hpk
  refine ⟨nle rfl, ?_⟩
  simp (maxSteps := 1000000) only [go_sem, Picks]
  repeat' first | apply And.intro | intro _ | omega | assumption | with_reducible rfl
  all_goals try (simp only [List.mem_cons, List.not_mem_nil, or_false] at *)
  any_goals
    refine loopS (α := (List ByteArray) × Int) false [0, 1, 4, 5, 7, 8, 9, 10, 11, 12, 13, 14, 15, 16, 17, 18, 19, 20, 21, 22, 23, 24, 25, 28] (fun σ => [gId (σ.get 4)]) (fun σ x => [(4, .c (.own (gId (σ.get 4)) (x.1).length false)), (5, I x.2)]) (fun σ x => [(gId (σ.get 4), some ⟨(x.1).map sC, 1, 9, true, false⟩)]) (fun (o, n) => 2 * o.length) (fun σ => (gL sCd σ (σ.get 4), gI (σ.get 5))) (fun σ τ => [(gId (σ.get 4), gId (τ.get 4))]) (fun (o, n) => (0 ≤ n ∧ o.length + n ≤ 11 ∧ 1 ≤ o.length) ∧ SzL 100 o) (fun (o, n) => n.toNat) ⟨by (simp (maxSteps := 1000000) only [go_sem, Picks]; (repeat' first | apply And.intro | intro _ | omega | assumption | with_reducible rfl); all_goals (first | omega | (rename_i h8 _; refine ⟨fun y hy => ?_⟩; simp only [List.mem_singleton] at hy; subst hy; rcases h8 with rfl|rfl|rfl|rfl|rfl <;> decide) | skip)), ?_⟩
    rintro ⟨o, n⟩ hinv
    try dsimp only at hinv
    simp (maxSteps := 1000000) only [go_sem, Picks]
    repeat' first | apply And.intro | intro _ | omega | assumption | with_reducible rfl
  
  all_goals (first | omega | (exact ⟨_, _, rfl, rfl, hpre⟩) | (exact SzL.snoc hinv.2 (of_size (n := 100) ‹_ ∈ _› rfl)) | (exact SzL.snoc ⟨fun y hy => by cases hy⟩ (of_size (n := 100) ‹_ ∈ _› rfl)) | ((have h9 := hinv.2.at ‹o[_]? = some _›; omega); done) | (exact hinv.2.mono (by decide)) | ((rename_i z2 hz2 z1 hz1 z0 hz0; have h9 := hinv.2.at hz2; exact ex_set2 (hinv.2.mono (by decide)) _ (by omega) (by omega)); done) | ((refine ⟨fun y hy => ?_⟩; simp only [List.mem_singleton] at hy; subst hy; rename_i h8 _; rcases h8 with rfl|rfl|rfl|rfl|rfl <;> decide); done) | (exact ⟨_, rfl, rfl, by omega, hinv.2.mono (by decide)⟩) | (skip; done))
end
theorem sat_spec_DrawRunSession : Sat Tryz.prog rt0 14 (wkIn spDRS) := sat_in (sat_out sat_spec_DrawRunSession_0)
end Go.Proofs.YthphndhiacikaaaGreatDoor
