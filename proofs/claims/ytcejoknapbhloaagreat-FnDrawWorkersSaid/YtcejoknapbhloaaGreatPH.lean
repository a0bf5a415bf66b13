/- Contracts of functions of the program vectorraster, each proved for all states that fit its description. No conditions. -/
import Derived.Test.YtcejoknapbhloaaGreatPD
import Derived.Test.YtcejoknapbhloaaGreatPE
import Derived.Test.YtcejoknapbhloaaGreatPA
import Derived.Test.YtcejoknapbhloaaGreatKK
import Derived.Test.YtcejoknapbhloaaGreatPG
set_option linter.unusedSimpArgs false
set_option linter.unusedVariables false
set_option maxRecDepth 100000
namespace Go.Proofs.YtcejoknapbhloaaGreat
open Go Go.VE
section
theorem vb_map (a : List Verb) (k : Int) (b : List Pt) : a.map vbC ++ [[C.v (.int .i64 k), C.sl false (b.map ptC)]] = (a ++ [(⟨k, b⟩ : Verb)]).map vbC := by rw [List.map_append]; rfl
theorem vPath_pts {p : List Verb} (h : vPath p = true) : nPts p ≤ 40 := by
  simp only [vPath, Bool.and_eq_true, decide_eq_true_eq] at h; exact h.2
def spAPath_A : Unit → List AV
  | () => [.c .rdr]
def spAPath_pre : Unit → Prop
  | () => True
def spAPath_post : Unit → AV → List Box → Prop
  | (), r, bs => ∃ p, r = .c (.own 0 p.length false) ∧ bs = [⟨p.map vbC, 2, 133, true, false⟩] ∧ p.length ≤ 31 ∧ nPts p ≤ 100
def spAPath : VE.Spec := famSpec spAPath_A d_r spAPath_pre spAPath_post 220 false
theorem spAPath_q : SpQ spAPath false [] false 220 (fun a i => i = [] ∧ famPre d_r spAPath_A spAPath_pre a) (fun a i r b => famPost d_r spAPath_post a r b) := ⟨rfl, rfl, rfl, rfl, fun _ _ => rfl, fun _ _ _ _ => rfl⟩
def tb72 : Nat → Option VE.Spec := tabOf [(42, wkIn spPick), (40, wkIn spOne), (109, wkIn spSome), (111, wkIn spAnyP), (70, wkIn spRPath)]
theorem tb72_42 : tb72 42 = some (wkIn spPick) := rfl
theorem tb72_40 : tb72 40 = some (wkIn spOne) := rfl
theorem tb72_109 : tb72 109 = some (wkIn spSome) := rfl
theorem tb72_111 : tb72 111 = some (wkIn spAnyP) := rfl
theorem tb72_70 : tb72 70 = some (wkIn spRPath) := rfl
theorem tb72_ok : TabOK Tryz.prog rt0 tb72 := (tabOf_cons (by kernel_rfl) sat_spec_reader_pick (tabOf_cons (by kernel_rfl) sat_spec_reader_one (tabOf_cons (by kernel_rfl) sat_spec_somePoint (tabOf_cons (by kernel_rfl) sat_spec_anyPoint (tabOf_cons (by kernel_rfl) sat_spec_randomPath tabOf_nil)))))
section
attribute [local go_sem] Tryz.f72 tb72_42 tb72_40 tb72_109 tb72_111 tb72_70 spAPath_q spAPath_A spAPath_pre spAPath_post spPick_q spPick_A spPick_pre spPick_post spOne_q spOne_A spOne_pre spOne_post spSome_q spSome_A spSome_pre spSome_post spAnyP_q spAnyP_A spAnyP_pre spAnyP_post spRPath_q spRPath_A spRPath_pre spRPath_post
set_option maxHeartbeats 4000000 in
theorem sat_spec_anyPath_0 : Sat Tryz.prog rt0 72 (wkOut spAPath) := by
  refine fn_sat hm ttok (tab := tb72) tb72_ok Tryz.func72 (c := Tryz.f72.body.getD .skip) (by kernel_rfl) (ts := [.tmp 2]) (by kernel_rfl) Tryz.ntmps72 (sq := fun _ => true) (by kernel_rfl) ?_
  intro args ins pk hpre0 hpk
  obtain ⟨rfl, hpre0⟩ := hpre0
  obtain ⟨⟨⟩, rfl, hpre, hdec⟩ := famPre_ex hpre0
  clear hpre0 hdec
  try simp only [spAPath_pre] at hpre
  replace hpk : pk + 220 ≤ pickLimit := hpk
  refine ⟨nle rfl, ?_⟩
  simp (maxSteps := 1000000) only [go_sem, Picks]
  repeat' first | apply And.intro | intro _ | omega | assumption | with_reducible rfl
  any_goals
    refine loopS (α := (List Verb)) true [1, 3, 4, 5, 6, 7, 8, 9, 10, 11, 12, 13, 14, 15, 16, 17, 18, 19, 20, 21, 22, 23, 24, 25, 26, 27, 28, 29, 30, 31, 32, 33, 34, 35, 36, 37, 38, 39, 40, 41, 42, 43, 44, 45, 46, 47, 48, 49, 50, 51, 52] (fun σ => [gId (σ.get 3)]) (fun σ x => [(3, .c (.own (gId (σ.get 3)) (x).length false))]) (fun σ x => [(gId (σ.get 3), some ⟨(x).map vbC, 2, 133, true, false⟩)]) (fun o => 3 * o.length) (fun σ => gL vbCd σ (σ.get 3)) (fun σ τ => [(gId (σ.get 3), gId (τ.get 3))]) (fun o => o.length ≤ 31 ∧ nPts o ≤ 40 + o.length) (fun o => 31 - o.length) ⟨by (simp (maxSteps := 1000000) only [go_sem, Picks]; (repeat' first | apply And.intro | intro _ | omega | assumption | with_reducible rfl); all_goals (first | (have h1 := vPath_len ‹_›; omega) | (have h2 := vPath_pts ‹_›; omega))), ?_⟩
    rintro o hinv
    try dsimp only at hinv
    simp (maxSteps := 1000000) only [go_sem, Picks]
    repeat' first | apply And.intro | intro _ | omega | assumption | with_reducible rfl
  
  all_goals (first | ((have h1 := vPath_len ‹_›; omega); done) | ((rw [nPts_snoc]; simp only [List.length_singleton]; omega); done) | (exact ⟨_, rfl, rfl, by omega, by omega⟩) | (exact ⟨_, rfl, rfl, by have h1 := vPath_len ‹_›; omega, by have h1 := vPath_pts ‹_›; omega⟩; done) | (exact ⟨⟨‹Int›, [‹Pt›]⟩ :: ‹List Verb›, by simp [Nat.add_comm], rfl, by have h1 := vPath_len ‹_›; simp only [List.length_cons]; omega, by have h1 := vPath_pts ‹_›; simp only [nPts, List.map_cons, List.sum_cons, List.length_singleton] at *; omega⟩; done) | (exact ⟨‹List Verb› ++ [⟨4, [‹Pt›]⟩], by rw [List.length_append]; rfl, vb_map _ 4 [‹Pt›], by have h1 := vPath_len ‹_›; simp only [List.length_append, List.length_singleton]; omega, by have h1 := vPath_pts ‹_›; rw [nPts_snoc]; simp only [List.length_singleton]; omega⟩; done) | (exact ⟨‹List Verb› ++ [⟨0, [‹Pt›]⟩], by rw [List.length_append]; rfl, vb_map _ 0 [‹Pt›], by have h1 := vPath_len ‹_›; simp only [List.length_append, List.length_singleton]; omega, by have h1 := vPath_pts ‹_›; rw [nPts_snoc]; simp only [List.length_singleton]; omega⟩; done))
end
theorem sat_spec_anyPath : Sat Tryz.prog rt0 72 (wkIn spAPath) := sat_in (sat_out sat_spec_anyPath_0)
end
def spLaw_A : (List UInt8) → List AV
  | code => [.c (.sl false (byC code))]
def spLaw_pre : (List UInt8) → Prop
  | code => True
def spLaw_post : (List UInt8) → AV → List Box → Prop
  | code, r, bs => r = B (true) ∧ bs = []
def spLaw : VE.Spec := famSpec spLaw_A d_ly spLaw_pre spLaw_post 100000 false
theorem spLaw_q : SpQ spLaw false [] false 100000 (fun a i => i = [] ∧ famPre d_ly spLaw_A spLaw_pre a) (fun a i r b => famPost d_ly spLaw_post a r b) := ⟨rfl, rfl, rfl, rfl, fun _ _ => rfl, fun _ _ _ _ => rfl⟩
end Go.Proofs.YtcejoknapbhloaaGreat
