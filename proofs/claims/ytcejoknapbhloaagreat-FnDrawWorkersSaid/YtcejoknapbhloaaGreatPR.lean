/- Contracts of functions of the program vectorraster, each proved for all states that fit its description. No conditions. -/
import Derived.Test.YtcejoknapbhloaaGreatPQ
import Derived.Test.YtcejoknapbhloaaGreatPD
import Derived.Test.YtcejoknapbhloaaGreatPA
import Derived.Test.YtcejoknapbhloaaGreatPE
import Derived.Test.YtcejoknapbhloaaGreatPH
set_option linter.unusedSimpArgs false
set_option linter.unusedVariables false
set_option maxRecDepth 100000
namespace Go.Proofs.YtcejoknapbhloaaGreat
open Go Go.VE
def rnd (a b : Int) : Int := (2 * a + b) / (2 * b)
def plainC (r g b a : Int) : Colr := ⟨rnd (r * a) 255, rnd (g * a) 255, rnd (b * a) 255, a⟩
def spRnd_A : Int × Int → List AV
  | (a, b) => [I a, I b]
def spRnd_pre : Int × Int → Prop
  | (a, b) => 1 ≤ b ∧ b ≤ 1000000000000 ∧ -1000000000000 ≤ a ∧ a ≤ 1000000000000
def spRnd_post : Int × Int → AV → List Box → Prop
  | (a, b), r, bs => r = I (rnd a b) ∧ bs = []
def spRnd : VE.Spec := famSpec spRnd_A d_i_i spRnd_pre spRnd_post 0 true
theorem spRnd_q : SpQ spRnd true [] false 0 (fun a i => i = [] ∧ famPre d_i_i spRnd_A spRnd_pre a) (fun a i r b => famPost d_i_i spRnd_post a r b) := ⟨rfl, rfl, rfl, rfl, fun _ _ => rfl, fun _ _ _ _ => rfl⟩
def tb136 : Nat → Option VE.Spec := tabOf [(145, wkIn spFloor)]
theorem tb136_145 : tb136 145 = some (wkIn spFloor) := rfl
theorem tb136_ok : TabOK Tryz.prog rt0 tb136 := (tabOf_cons (by kernel_rfl) sat_spec_floorDiv tabOf_nil)
set_option maxHeartbeats 4000000 in
theorem sat_spec_nearest_0 : Sat Tryz.prog rt0 136 (wkOut spRnd) := by
  refine fn_sat hm ttok (tab := tb136) tb136_ok Tryz.func136 (c := Tryz.f136.body.getD .skip) (by kernel_rfl) (ts := [.tmp 4]) (by kernel_rfl) Tryz.ntmps136 (sq := fun _ => true) (by kernel_rfl) ?_
  intro args ins pk hpre0 hpk
  obtain ⟨rfl, hpre0⟩ := hpre0
  obtain ⟨⟨a, b⟩, rfl, hpre, hdec⟩ := famPre_ex hpre0
  clear hpre0 hdec
  try simp only [spRnd_pre] at hpre
  replace hpk : pk + 0 ≤ pickLimit := hpk
  refine ⟨nle rfl, ?_⟩
  simp (maxSteps := 1000000) only [go_sem, Tryz.f136, tb136_145, spRnd_q, spRnd_A, spRnd_pre, spRnd_post, spFloor_q, spFloor_A, spFloor_pre, spFloor_post]
  repeat' first | apply And.intro | intro _ | omega | assumption | with_reducible rfl
  all_goals (first | (rfl; done))
theorem sat_spec_nearest : Sat Tryz.prog rt0 136 (wkIn spRnd) := sat_in (sat_out sat_spec_nearest_0)
def tb123 : Nat → Option VE.Spec := tabOf [(141, wkIn spFloor)]
theorem tb123_141 : tb123 141 = some (wkIn spFloor) := rfl
theorem tb123_ok : TabOK Tryz.prog rt0 tb123 := (tabOf_cons (by kernel_rfl) sat_impl_floor tabOf_nil)
set_option maxHeartbeats 4000000 in
theorem sat_impl_round_0 : Sat Tryz.prog rt0 123 (wkOut spRnd) := by
  refine fn_sat hm ttok (tab := tb123) tb123_ok Tryz.func123 (c := Tryz.f123.body.getD .skip) (by kernel_rfl) (ts := [.tmp 4]) (by kernel_rfl) Tryz.ntmps123 (sq := fun _ => true) (by kernel_rfl) ?_
  intro args ins pk hpre0 hpk
  obtain ⟨rfl, hpre0⟩ := hpre0
  obtain ⟨⟨a, b⟩, rfl, hpre, hdec⟩ := famPre_ex hpre0
  clear hpre0 hdec
  try simp only [spRnd_pre] at hpre
  replace hpk : pk + 0 ≤ pickLimit := hpk
  refine ⟨nle rfl, ?_⟩
  simp (maxSteps := 1000000) only [go_sem, Tryz.f123, tb123_141, spRnd_q, spRnd_A, spRnd_pre, spRnd_post, spFloor_q, spFloor_A, spFloor_pre, spFloor_post]
  repeat' first | apply And.intro | intro _ | omega | assumption | with_reducible rfl
  all_goals (first | (rfl; done))
theorem sat_impl_round : Sat Tryz.prog rt0 123 (wkIn spRnd) := sat_in (sat_out sat_impl_round_0)
def spPlain_A : Int × Int × Int × Int → List AV
  | (e, g, b, a) => [I e, I g, I b, I a]
def spPlain_pre : Int × Int × Int × Int → Prop
  | (e, g, b, a) => (0 ≤ e ∧ e ≤ 1000) ∧ (0 ≤ g ∧ g ≤ 1000) ∧ (0 ≤ b ∧ b ≤ 1000) ∧ 0 ≤ a ∧ a ≤ 1000
def spPlain_post : Int × Int × Int × Int → AV → List Box → Prop
  | (e, g, b, a), r, bs => r = .agg (coC (plainC e g b a)) ∧ bs = []
def spPlain : VE.Spec := famSpec spPlain_A d_i_i_i_i spPlain_pre spPlain_post 0 true
theorem spPlain_q : SpQ spPlain true [] false 0 (fun a i => i = [] ∧ famPre d_i_i_i_i spPlain_A spPlain_pre a) (fun a i r b => famPost d_i_i_i_i spPlain_post a r b) := ⟨rfl, rfl, rfl, rfl, fun _ _ => rfl, fun _ _ _ _ => rfl⟩
def tb148 : Nat → Option VE.Spec := tabOf [(136, wkIn spRnd)]
theorem tb148_136 : tb148 136 = some (wkIn spRnd) := rfl
theorem tb148_ok : TabOK Tryz.prog rt0 tb148 := (tabOf_cons (by kernel_rfl) sat_spec_nearest tabOf_nil)
set_option maxHeartbeats 4000000 in
theorem sat_spec_plain_0 : Sat Tryz.prog rt0 148 (wkOut spPlain) := by
  refine fn_sat hm ttok (tab := tb148) tb148_ok Tryz.func148 (c := Tryz.f148.body.getD .skip) (by kernel_rfl) (ts := [.cell 8 66]) (by kernel_rfl) Tryz.ntmps148 (sq := fun _ => true) (by kernel_rfl) ?_
  intro args ins pk hpre0 hpk
  obtain ⟨rfl, hpre0⟩ := hpre0
  obtain ⟨⟨e, g, b, a⟩, rfl, hpre, hdec⟩ := famPre_ex hpre0
  clear hpre0 hdec
  try simp only [spPlain_pre] at hpre
  replace hpk : pk + 0 ≤ pickLimit := hpk
  refine ⟨nle rfl, ?_⟩
  have m1 := mul_bd (m := 1000) (n := 1000) (show -1000 ≤ e by omega) (by omega) (show -1000 ≤ a by omega) (by omega)
  have m2 := mul_bd (m := 1000) (n := 1000) (show -1000 ≤ g by omega) (by omega) (show -1000 ≤ a by omega) (by omega)
  have m3 := mul_bd (m := 1000) (n := 1000) (show -1000 ≤ b by omega) (by omega) (show -1000 ≤ a by omega) (by omega)
  simp (maxSteps := 1000000) only [go_sem, Tryz.f148, tb148_136, spPlain_q, spPlain_A, spPlain_pre, spPlain_post, spRnd_q, spRnd_A, spRnd_pre, spRnd_post]
  repeat' first | apply And.intro | intro _ | omega | assumption | with_reducible rfl
  all_goals (first | (rfl; done))
theorem sat_spec_plain : Sat Tryz.prog rt0 148 (wkIn spPlain) := sat_in (sat_out sat_spec_plain_0)
def spRCol_A : Unit → List AV
  | () => [.c .rdr]
def spRCol_pre : Unit → Prop
  | () => True
def spRCol_post : Unit → AV → List Box → Prop
  | (), r, bs => ∃ c : Colr, r = .agg (coC c) ∧ bs = [] ∧ 0 ≤ c.a ∧ c.a ≤ 255
def spRCol : VE.Spec := famSpec spRCol_A d_r spRCol_pre spRCol_post 4 false
theorem spRCol_q : SpQ spRCol false [] false 4 (fun a i => i = [] ∧ famPre d_r spRCol_A spRCol_pre a) (fun a i r b => famPost d_r spRCol_post a r b) := ⟨rfl, rfl, rfl, rfl, fun _ _ => rfl, fun _ _ _ _ => rfl⟩
def tb112 : Nat → Option VE.Spec := tabOf [(42, wkIn spPick), (40, wkIn spOne), (148, wkIn spPlain)]
theorem tb112_42 : tb112 42 = some (wkIn spPick) := rfl
theorem tb112_40 : tb112 40 = some (wkIn spOne) := rfl
theorem tb112_148 : tb112 148 = some (wkIn spPlain) := rfl
theorem tb112_ok : TabOK Tryz.prog rt0 tb112 := (tabOf_cons (by kernel_rfl) sat_spec_reader_pick (tabOf_cons (by kernel_rfl) sat_spec_reader_one (tabOf_cons (by kernel_rfl) sat_spec_plain tabOf_nil)))
set_option maxHeartbeats 4000000 in
theorem sat_spec_randomColor_0 : Sat Tryz.prog rt0 112 (wkOut spRCol) := by
  refine fn_sat hm ttok (tab := tb112) tb112_ok Tryz.func112 (c := Tryz.f112.body.getD .skip) (by kernel_rfl) (ts := [.cell 2 66]) (by kernel_rfl) Tryz.ntmps112 (sq := fun _ => true) (by kernel_rfl) ?_
  intro args ins pk hpre0 hpk
  obtain ⟨rfl, hpre0⟩ := hpre0
  obtain ⟨⟨⟩, rfl, hpre, hdec⟩ := famPre_ex hpre0
  clear hpre0 hdec
  try simp only [spRCol_pre] at hpre
  replace hpk : pk + 4 ≤ pickLimit := hpk
  refine ⟨nle rfl, ?_⟩
  simp (maxSteps := 1000000) only [go_sem, Tryz.f112, tb112_42, tb112_40, tb112_148, spRCol_q, spRCol_A, spRCol_pre, spRCol_post, spPick_q, spPick_A, spPick_pre, spPick_post, spOne_q, spOne_A, spOne_pre, spOne_post, spPlain_q, spPlain_A, spPlain_pre, spPlain_post, Picks]
  repeat' first | apply And.intro | intro _ | omega | assumption | with_reducible rfl
  all_goals (first | ((simp only [List.mem_cons, List.not_mem_nil, or_false, plainC] at *; omega); done))
theorem sat_spec_randomColor : Sat Tryz.prog rt0 112 (wkIn spRCol) := sat_in (sat_out sat_spec_randomColor_0)
def spACol_A : Unit → List AV
  | () => [.c .rdr]
def spACol_pre : Unit → Prop
  | () => True
def spACol_post : Unit → AV → List Box → Prop
  | (), r, bs => ∃ c : Colr, r = .agg (coC c) ∧ bs = []
def spACol : VE.Spec := famSpec spACol_A d_r spACol_pre spACol_post 6 false
theorem spACol_q : SpQ spACol false [] false 6 (fun a i => i = [] ∧ famPre d_r spACol_A spACol_pre a) (fun a i r b => famPost d_r spACol_post a r b) := ⟨rfl, rfl, rfl, rfl, fun _ _ => rfl, fun _ _ _ _ => rfl⟩
def tb113 : Nat → Option VE.Spec := tabOf [(42, wkIn spPick), (40, wkIn spOne), (112, wkIn spRCol)]
theorem tb113_42 : tb113 42 = some (wkIn spPick) := rfl
theorem tb113_40 : tb113 40 = some (wkIn spOne) := rfl
theorem tb113_112 : tb113 112 = some (wkIn spRCol) := rfl
theorem tb113_ok : TabOK Tryz.prog rt0 tb113 := (tabOf_cons (by kernel_rfl) sat_spec_reader_pick (tabOf_cons (by kernel_rfl) sat_spec_reader_one (tabOf_cons (by kernel_rfl) sat_spec_randomColor tabOf_nil)))
set_option maxHeartbeats 4000000 in
theorem sat_spec_anyColor_0 : Sat Tryz.prog rt0 113 (wkOut spACol) := by
  refine fn_sat hm ttok (tab := tb113) tb113_ok Tryz.func113 (c := Tryz.f113.body.getD .skip) (by kernel_rfl) (ts := [.cell 2 66]) (by kernel_rfl) Tryz.ntmps113 (sq := fun _ => true) (by kernel_rfl) ?_
  intro args ins pk hpre0 hpk
  obtain ⟨rfl, hpre0⟩ := hpre0
  obtain ⟨⟨⟩, rfl, hpre, hdec⟩ := famPre_ex hpre0
  clear hpre0 hdec
  try simp only [spACol_pre] at hpre
  replace hpk : pk + 6 ≤ pickLimit := hpk
  refine ⟨nle rfl, ?_⟩
  simp (maxSteps := 1000000) only [go_sem, Tryz.f113, tb113_42, tb113_40, tb113_112, spACol_q, spACol_A, spACol_pre, spACol_post, spPick_q, spPick_A, spPick_pre, spPick_post, spOne_q, spOne_A, spOne_pre, spOne_post, spRCol_q, spRCol_A, spRCol_pre, spRCol_post, Picks]
  repeat' first | apply And.intro | intro _ | omega | assumption | with_reducible rfl
  all_goals (first | (exact ⟨⟨_, _, _, _⟩, (coC_mk _ _ _ _).symm⟩))
theorem sat_spec_anyColor : Sat Tryz.prog rt0 113 (wkIn spACol) := sat_in (sat_out sat_spec_anyColor_0)
section
def spRStops_A : Unit → List AV
  | () => [.c .rdr]
def spRStops_pre : Unit → Prop
  | () => True
def spRStops_post : Unit → AV → List Box → Prop
  | (), r, bs => ∃ l : List Stp, r = .c (.own 0 l.length false) ∧ bs = [⟨l.map stC, 5, 145, true, false⟩] ∧ 1 ≤ l.length ∧ l.length ≤ 4
def spRStops : VE.Spec := famSpec spRStops_A d_r spRStops_pre spRStops_post 30 false
theorem spRStops_q : SpQ spRStops false [] false 30 (fun a i => i = [] ∧ famPre d_r spRStops_A spRStops_pre a) (fun a i r b => famPost d_r spRStops_post a r b) := ⟨rfl, rfl, rfl, rfl, fun _ _ => rfl, fun _ _ _ _ => rfl⟩
def tb110 : Nat → Option VE.Spec := tabOf [(42, wkIn spPick), (40, wkIn spOne), (112, wkIn spRCol)]
theorem tb110_42 : tb110 42 = some (wkIn spPick) := rfl
theorem tb110_40 : tb110 40 = some (wkIn spOne) := rfl
theorem tb110_112 : tb110 112 = some (wkIn spRCol) := rfl
theorem tb110_ok : TabOK Tryz.prog rt0 tb110 := (tabOf_cons (by kernel_rfl) sat_spec_reader_pick (tabOf_cons (by kernel_rfl) sat_spec_reader_one (tabOf_cons (by kernel_rfl) sat_spec_randomColor tabOf_nil)))
section
attribute [local go_sem] Tryz.f110 tb110_42 tb110_40 tb110_112 spRStops_q spRStops_A spRStops_pre spRStops_post spPick_q spPick_A spPick_pre spPick_post spOne_q spOne_A spOne_pre spOne_post spRCol_q spRCol_A spRCol_pre spRCol_post
set_option maxHeartbeats 4000000 in
theorem sat_spec_randomStops_0 : Sat Tryz.prog rt0 110 (wkOut spRStops) := by
  refine fn_sat hm ttok (tab := tb110) tb110_ok Tryz.func110 (c := Tryz.f110.body.getD .skip) (by kernel_rfl) (ts := [.tmp 2]) (by kernel_rfl) Tryz.ntmps110 (sq := fun _ => true) (by kernel_rfl) ?_
  intro args ins pk hpre0 hpk
  obtain ⟨rfl, hpre0⟩ := hpre0
  obtain ⟨⟨⟩, rfl, hpre, hdec⟩ := famPre_ex hpre0
  clear hpre0 hdec
  try simp only [spRStops_pre] at hpre
  replace hpk : pk + 30 ≤ pickLimit := hpk
  refine ⟨nle rfl, ?_⟩
  simp (maxSteps := 1000000) only [go_sem, Picks]
  repeat' first | apply And.intro | intro _ | omega | assumption | with_reducible rfl
  all_goals try (simp only [List.mem_cons, List.not_mem_nil, or_false] at *)
  any_goals
    refine loopS (α := (List Stp) × Int × Int) false [1, 3, 4, 5, 6, 7, 8, 9, 10, 11, 12, 13, 14, 15, 16, 17, 18, 19, 20, 21, 22, 23, 24, 25, 26, 27] (fun σ => [gId (σ.get 3)]) (fun σ x => [(3, .c (.own (gId (σ.get 3)) (x.1).length false)), (4, I x.2.1), (5, I x.2.2)]) (fun σ x => [(gId (σ.get 3), some ⟨(x.1).map stC, 5, 145, true, false⟩)]) (fun (o, a, n) => 5 * o.length) (fun σ => (gL stCd σ (σ.get 3), gI (σ.get 4), gI (σ.get 5))) (fun σ τ => [(gId (σ.get 3), gId (τ.get 3))]) (fun (o, a, n) => ((1 ≤ n ∨ 1 ≤ o.length) ∧ 0 ≤ n ∧ o.length + n ≤ 4) ∧ 0 ≤ a ∧ a ≤ 60 + 61 * o.length) (fun (o, a, n) => n.toNat) ⟨by (simp (maxSteps := 1000000) only [go_sem, Picks]; (repeat' first | apply And.intro | intro _ | omega | assumption | with_reducible rfl); all_goals (first | omega)), ?_⟩
    rintro ⟨o, a, n⟩ hinv
    try dsimp only at hinv
    simp (maxSteps := 1000000) only [go_sem, Picks]
    repeat' first | apply And.intro | intro _ | omega | assumption | with_reducible rfl
  
  all_goals (first | (exact ⟨_, rfl, rfl, by omega, by omega⟩) | omega)
end
theorem sat_spec_randomStops : Sat Tryz.prog rt0 110 (wkIn spRStops) := sat_in (sat_out sat_spec_randomStops_0)
def spAStops_A : Unit → List AV
  | () => [.c .rdr]
def spAStops_pre : Unit → Prop
  | () => True
def spAStops_post : Unit → AV → List Box → Prop
  | (), r, bs => ∃ l : List Stp, r = .c (.own 0 l.length false) ∧ bs = [⟨l.map stC, 5, 145, true, false⟩] ∧ l.length ≤ 5
def spAStops : VE.Spec := famSpec spAStops_A d_r spAStops_pre spAStops_post 45 false
theorem spAStops_q : SpQ spAStops false [] false 45 (fun a i => i = [] ∧ famPre d_r spAStops_A spAStops_pre a) (fun a i r b => famPost d_r spAStops_post a r b) := ⟨rfl, rfl, rfl, rfl, fun _ _ => rfl, fun _ _ _ _ => rfl⟩
theorem ex_snoc {l : List Stp} (w : Int) (c : Colr) (h : l.length ≤ 4) : ∃ m : List Stp, l.length + 1 = m.length ∧ List.map stC l ++ [stC ⟨w, c⟩] = List.map stC m ∧ m.length ≤ 5 := ⟨l ++ [⟨w, c⟩], by simp, by simp, by simp; omega⟩
theorem ex_set {l : List Stp} (w : Int) (c : Colr) (h : l.length ≤ 4) : ∃ m : List Stp, l.length = m.length ∧ wkEs ((List.map stC l).set 0 (stC ⟨w, c⟩)) = List.map stC m ∧ m.length ≤ 5 := ⟨l.set 0 ⟨w, c⟩, by simp, by rw [← List.map_set]; exact stC_wks _, by simp; omega⟩
def tb73 : Nat → Option VE.Spec := tabOf [(42, wkIn spPick), (40, wkIn spOne), (112, wkIn spRCol), (113, wkIn spACol), (110, wkIn spRStops)]
theorem tb73_42 : tb73 42 = some (wkIn spPick) := rfl
theorem tb73_40 : tb73 40 = some (wkIn spOne) := rfl
theorem tb73_112 : tb73 112 = some (wkIn spRCol) := rfl
theorem tb73_113 : tb73 113 = some (wkIn spACol) := rfl
theorem tb73_110 : tb73 110 = some (wkIn spRStops) := rfl
theorem tb73_ok : TabOK Tryz.prog rt0 tb73 := (tabOf_cons (by kernel_rfl) sat_spec_reader_pick (tabOf_cons (by kernel_rfl) sat_spec_reader_one (tabOf_cons (by kernel_rfl) sat_spec_randomColor (tabOf_cons (by kernel_rfl) sat_spec_anyColor (tabOf_cons (by kernel_rfl) sat_spec_randomStops tabOf_nil)))))
set_option maxHeartbeats 4000000 in
theorem sat_spec_anyStops_0 : Sat Tryz.prog rt0 73 (wkOut spAStops) := by
  refine fn_sat hm ttok (tab := tb73) tb73_ok Tryz.func73 (c := Tryz.f73.body.getD .skip) (by kernel_rfl) (ts := [.tmp 2]) (by kernel_rfl) Tryz.ntmps73 (sq := fun _ => true) (by kernel_rfl) ?_
  intro args ins pk hpre0 hpk
  obtain ⟨rfl, hpre0⟩ := hpre0
  obtain ⟨⟨⟩, rfl, hpre, hdec⟩ := famPre_ex hpre0
  clear hpre0 hdec
  try simp only [spAStops_pre] at hpre
  replace hpk : pk + 45 ≤ pickLimit := hpk
  refine ⟨nle rfl, ?_⟩
  simp (maxSteps := 1000000) only [go_sem, Tryz.f73, tb73_42, tb73_40, tb73_112, tb73_113, tb73_110, spAStops_q, spAStops_A, spAStops_pre, spAStops_post, spPick_q, spPick_A, spPick_pre, spPick_post, spOne_q, spOne_A, spOne_pre, spOne_post, spRCol_q, spRCol_A, spRCol_pre, spRCol_post, spACol_q, spACol_A, spACol_pre, spACol_post, spRStops_q, spRStops_A, spRStops_pre, spRStops_post, Picks]
  repeat' first | apply And.intro | intro _ | omega | assumption | with_reducible rfl
  all_goals (first | (exact ⟨_, rfl, rfl, by omega⟩) | (exact ⟨[], rfl, rfl, by decide⟩) | (exact ex_set _ _ (by assumption)) | (exact ex_snoc _ _ (by assumption)))
theorem sat_spec_anyStops : Sat Tryz.prog rt0 73 (wkIn spAStops) := sat_in (sat_out sat_spec_anyStops_0)
end
theorem okF_mk {p : List Verb} {rl : Int} {pn : Pnt} (h : vPath p = true) (h2 : pn.ss.length ≤ 5) : okF ⟨p, rl, pn⟩ := ⟨by have := vPath_len h; dsimp only; omega, by have := vPath_pts h; dsimp only; omega, by dsimp only; omega⟩
theorem okF_nil {rl : Int} {pn : Pnt} (h2 : pn.ss.length ≤ 5) : okF ⟨[], rl, pn⟩ := ⟨by simp, by simp [nPts], by dsimp only; omega⟩
theorem okF_rl {f : Fil} (h : okF f) (rl : Int) : okF ⟨f.p, rl, f.pn⟩ := ⟨h.p, h.n, h.s⟩
theorem okF_path {f : Fil} (h : okF f) {p : List Verb} (h1 : p.length ≤ 31) (h2 : nPts p ≤ 100) : okF ⟨p, f.rl, f.pn⟩ := ⟨by dsimp only; omega, by dsimp only; omega, h.s⟩
theorem okF_ss {f : Fil} (h : okF f) {l : List Stp} (h1 : l.length ≤ 5) : okF ⟨f.p, f.rl, ⟨f.pn.f, f.pn.t, l⟩⟩ := ⟨h.p, h.n, by dsimp only; omega⟩
structure okScn (s : Scn) : Prop where
  len : s.fs.length ≤ 5
  fs : okFs s.fs
  w : 0 ≤ s.w ∧ s.w ≤ 13
  h : 0 ≤ s.h ∧ s.h ≤ 13
theorem ex_pnt {l : List Stp} (f t : Pt) (h : l.length ≤ 4) : ∃ p : Pnt, ptC f ++ (ptC t ++ [C.sl false (List.map stC l)]) = pnC p ∧ p.ss.length ≤ 5 := ⟨⟨f, t, l⟩, rfl, by dsimp only; omega⟩
theorem ex_pnt0 {l : List Stp} (h : l.length ≤ 4) : ∃ p : Pnt, [C.v (.int .i64 0), C.v (.int .i64 0), C.v (.int .i64 0), C.v (.int .i64 0), C.sl false (List.map stC l)] = pnC p ∧ p.ss.length ≤ 5 := ⟨⟨⟨0, 0⟩, ⟨0, 0⟩, l⟩, rfl, by dsimp only; omega⟩
def spRPnt_A : Unit → List AV
  | () => [.c .rdr]
def spRPnt_pre : Unit → Prop
  | () => True
def spRPnt_post : Unit → AV → List Box → Prop
  | (), r, bs => ∃ p : Pnt, r = .agg (pnC p) ∧ bs = [] ∧ p.ss.length ≤ 5
def spRPnt : VE.Spec := famSpecS spRPnt_A d_r spRPnt_pre spRPnt_post 50 false
theorem spRPnt_q : SpQ spRPnt false [] true 50 (fun a i => i = [] ∧ famPre d_r spRPnt_A spRPnt_pre a) (fun a i r b => famPost d_r spRPnt_post a r b) := ⟨rfl, rfl, rfl, rfl, fun _ _ => rfl, fun _ _ _ _ => rfl⟩
def tb71 : Nat → Option VE.Spec := tabOf [(42, wkIn spPick), (110, wkIn spRStops), (109, wkIn spSome)]
theorem tb71_42 : tb71 42 = some (wkIn spPick) := rfl
theorem tb71_110 : tb71 110 = some (wkIn spRStops) := rfl
theorem tb71_109 : tb71 109 = some (wkIn spSome) := rfl
theorem tb71_ok : TabOK Tryz.prog rt0 tb71 := (tabOf_cons (by kernel_rfl) sat_spec_reader_pick (tabOf_cons (by kernel_rfl) sat_spec_randomStops (tabOf_cons (by kernel_rfl) sat_spec_somePoint tabOf_nil)))
set_option maxHeartbeats 4000000 in
theorem sat_spec_randomPaint_0 : Sat Tryz.prog rt0 71 (wkOut spRPnt) := by
  refine fn_sat hm ttok (tab := tb71) tb71_ok Tryz.func71 (c := Tryz.f71.body.getD .skip) (by kernel_rfl) (ts := [.cell 2 43]) (by kernel_rfl) Tryz.ntmps71 (sq := fun _ => true) (by kernel_rfl) ?_
  intro args ins pk hpre0 hpk
  obtain ⟨rfl, hpre0⟩ := hpre0
  obtain ⟨⟨⟩, rfl, hpre, hdec⟩ := famPre_ex hpre0
  clear hpre0 hdec
  try simp only [spRPnt_pre] at hpre
  replace hpk : pk + 50 ≤ pickLimit := hpk
  refine ⟨nle rfl, ?_⟩
  simp (maxSteps := 1000000) only [go_sem, Tryz.f71, tb71_42, tb71_110, tb71_109, spRPnt_q, spRPnt_A, spRPnt_pre, spRPnt_post, spPick_q, spPick_A, spPick_pre, spPick_post, spRStops_q, spRStops_A, spRStops_pre, spRStops_post, spSome_q, spSome_A, spSome_pre, spSome_post, Picks]
  repeat' first | apply And.intro | intro _ | omega | assumption | with_reducible rfl
  all_goals (first | (rfl; done) | (exact ex_pnt _ _ (by assumption)) | (exact ex_pnt0 (by assumption)) | ((simp only [go_sem]; done); done) | ((simp (maxSteps := 1000000) only [go_sem]; done); done))
theorem sat_spec_randomPaint : Sat Tryz.prog rt0 71 (wkIn spRPnt) := sat_in (sat_out sat_spec_randomPaint_0)
def spRFil_A : Unit → List AV
  | () => [.c .rdr]
def spRFil_pre : Unit → Prop
  | () => True
def spRFil_post : Unit → AV → List Box → Prop
  | (), r, bs => ∃ f : Fil, r = .agg (flC f) ∧ bs = [] ∧ okF f
def spRFil : VE.Spec := famSpecS spRFil_A d_r spRFil_pre spRFil_post 200 false
theorem spRFil_q : SpQ spRFil false [] true 200 (fun a i => i = [] ∧ famPre d_r spRFil_A spRFil_pre a) (fun a i r b => famPost d_r spRFil_post a r b) := ⟨rfl, rfl, rfl, rfl, fun _ _ => rfl, fun _ _ _ _ => rfl⟩
def tb41 : Nat → Option VE.Spec := tabOf [(42, wkIn spPick), (70, wkIn spRPath), (65, wkIn spRings), (64, wkIn spVRings), (71, wkIn spRPnt)]
theorem tb41_42 : tb41 42 = some (wkIn spPick) := rfl
theorem tb41_70 : tb41 70 = some (wkIn spRPath) := rfl
theorem tb41_65 : tb41 65 = some (wkIn spRings) := rfl
theorem tb41_64 : tb41 64 = some (wkIn spVRings) := rfl
theorem tb41_71 : tb41 71 = some (wkIn spRPnt) := rfl
theorem tb41_ok : TabOK Tryz.prog rt0 tb41 := (tabOf_cons (by kernel_rfl) sat_spec_reader_pick (tabOf_cons (by kernel_rfl) sat_spec_randomPath (tabOf_cons (by kernel_rfl) sat_spec_rings (tabOf_cons (by kernel_rfl) sat_spec_validRings (tabOf_cons (by kernel_rfl) sat_spec_randomPaint tabOf_nil)))))
set_option maxHeartbeats 4000000 in
theorem sat_spec_randomFill_0 : Sat Tryz.prog rt0 41 (wkOut spRFil) := by
  refine fn_sat hm ttok (tab := tb41) tb41_ok Tryz.func41 (c := Tryz.f41.body.getD .skip) (by kernel_rfl) (ts := [.cell 2 45]) (by kernel_rfl) Tryz.ntmps41 (sq := fun _ => true) (by kernel_rfl) ?_
  intro args ins pk hpre0 hpk
  obtain ⟨rfl, hpre0⟩ := hpre0
  obtain ⟨⟨⟩, rfl, hpre, hdec⟩ := famPre_ex hpre0
  clear hpre0 hdec
  try simp only [spRFil_pre] at hpre
  replace hpk : pk + 200 ≤ pickLimit := hpk
  refine ⟨nle rfl, ?_⟩
  simp (maxSteps := 1000000) only [go_sem, Tryz.f41, tb41_42, tb41_70, tb41_65, tb41_64, tb41_71, spRFil_q, spRFil_A, spRFil_pre, spRFil_post, spPick_q, spPick_A, spPick_pre, spPick_post, spRPath_q, spRPath_A, spRPath_pre, spRPath_post, spRings_q, spRings_A, spRings_pre, spRings_post, spVRings_q, spVRings_A, spVRings_pre, spVRings_post, spRPnt_q, spRPnt_A, spRPnt_pre, spRPnt_post, Picks]
  repeat' first | apply And.intro | intro _ | omega | assumption | with_reducible rfl
  all_goals (first | (exact (rings_tot2 ‹vPath _ = true›).1) | (exact (rings_tot2 ‹vPath _ = true›).2) | (exact okF_mk ‹vPath _ = true› ‹_›) | (exact ⟨⟨[], _, _⟩, rfl, okF_nil ‹_›⟩))
theorem sat_spec_randomFill : Sat Tryz.prog rt0 41 (wkIn spRFil) := sat_in (sat_out sat_spec_randomFill_0)
theorem ex_fss {f : Fil} (h : okF f) {l : List Stp} (hl : l.length ≤ 5) : ∃ g : Fil, C.sl false (List.map vbC f.p) :: C.v (.int .i64 f.rl) :: wkCs (edC ⟨f.pn.f, f.pn.t⟩ ++ [C.sl false (List.map stC l)]) = flC g ∧ okF g := by
  refine ⟨⟨f.p, f.rl, ⟨f.pn.f, f.pn.t, l⟩⟩, ?_, okF_ss h hl⟩
  have e : wkCs (edC ⟨f.pn.f, f.pn.t⟩ ++ [C.sl false (List.map stC l)]) = edC ⟨f.pn.f, f.pn.t⟩ ++ [C.sl false (List.map stC l)] := by simp [edC, ptC, wkCs, wkC, stC_wks]
  rw [e]; rfl
def spAFil_A : Unit → List AV
  | () => [.c .rdr]
def spAFil_pre : Unit → Prop
  | () => True
def spAFil_post : Unit → AV → List Box → Prop
  | (), r, bs => ∃ f : Fil, r = .agg (flC f) ∧ bs = [] ∧ okF f
def spAFil : VE.Spec := famSpecS spAFil_A d_r spAFil_pre spAFil_post 430 false
theorem spAFil_q : SpQ spAFil false [] true 430 (fun a i => i = [] ∧ famPre d_r spAFil_A spAFil_pre a) (fun a i r b => famPost d_r spAFil_post a r b) := ⟨rfl, rfl, rfl, rfl, fun _ _ => rfl, fun _ _ _ _ => rfl⟩
def tb43 : Nat → Option VE.Spec := tabOf [(42, wkIn spPick), (40, wkIn spOne), (41, wkIn spRFil), (72, wkIn spAPath), (73, wkIn spAStops)]
theorem tb43_42 : tb43 42 = some (wkIn spPick) := rfl
theorem tb43_40 : tb43 40 = some (wkIn spOne) := rfl
theorem tb43_41 : tb43 41 = some (wkIn spRFil) := rfl
theorem tb43_72 : tb43 72 = some (wkIn spAPath) := rfl
theorem tb43_73 : tb43 73 = some (wkIn spAStops) := rfl
theorem tb43_ok : TabOK Tryz.prog rt0 tb43 := (tabOf_cons (by kernel_rfl) sat_spec_reader_pick (tabOf_cons (by kernel_rfl) sat_spec_reader_one (tabOf_cons (by kernel_rfl) sat_spec_randomFill (tabOf_cons (by kernel_rfl) sat_spec_anyPath (tabOf_cons (by kernel_rfl) sat_spec_anyStops tabOf_nil)))))
set_option maxHeartbeats 4000000 in
theorem sat_spec_anyFill_0 : Sat Tryz.prog rt0 43 (wkOut spAFil) := by
  refine fn_sat hm ttok (tab := tb43) tb43_ok Tryz.func43 (c := Tryz.f43.body.getD .skip) (by kernel_rfl) (ts := [.cell 2 45]) (by kernel_rfl) Tryz.ntmps43 (sq := fun _ => true) (by kernel_rfl) ?_
  intro args ins pk hpre0 hpk
  obtain ⟨rfl, hpre0⟩ := hpre0
  obtain ⟨⟨⟩, rfl, hpre, hdec⟩ := famPre_ex hpre0
  clear hpre0 hdec
  try simp only [spAFil_pre] at hpre
  replace hpk : pk + 430 ≤ pickLimit := hpk
  refine ⟨nle rfl, ?_⟩
  simp (maxSteps := 1000000) only [go_sem, Tryz.f43, tb43_42, tb43_40, tb43_41, tb43_72, tb43_73, spAFil_q, spAFil_A, spAFil_pre, spAFil_post, spPick_q, spPick_A, spPick_pre, spPick_post, spOne_q, spOne_A, spOne_pre, spOne_post, spRFil_q, spRFil_A, spRFil_pre, spRFil_post, spAPath_q, spAPath_A, spAPath_pre, spAPath_post, spAStops_q, spAStops_A, spAStops_pre, spAStops_post, Picks]
  repeat' first | apply And.intro | intro _ | omega | assumption | with_reducible rfl
  all_goals (first | (rfl; done) | (assumption; done) | (exact ⟨⟨_, _, _⟩, rfl, okF_rl ‹okF _› _⟩) | (exact ⟨⟨_, _, _⟩, rfl, okF_path ‹okF _› ‹_› ‹_›⟩) | (exact ⟨⟨_, _, ⟨_, _, _⟩⟩, rfl, okF_ss ‹okF _› ‹_›⟩) | (exact okF_rl ‹okF _› _) | (exact okF_path ‹okF _› ‹_› ‹_›) | (exact okF_ss ‹okF _› ‹_›) | (exact ex_fss ‹okF _› ‹_›) | ((simp (maxSteps := 1000000) only [go_sem]; done); done))
theorem sat_spec_anyFill : Sat Tryz.prog rt0 43 (wkIn spAFil) := sat_in (sat_out sat_spec_anyFill_0)
section
theorem ex_scn {o : List Fil} {f : Fil} {w h : Int} (ho : okFs o) (hl : o.length ≤ 4) (hf : okF f) (hw : 0 ≤ w ∧ w ≤ 13) (hh : 0 ≤ h ∧ h ≤ 13) : ∃ c : Scn, [C.v (.int .i64 w), C.v (.int .i64 h), C.sl false (List.map flC o ++ [flC f])] = scC c ∧ okScn c :=
  ⟨⟨w, h, o ++ [f]⟩, by simp [scC], ⟨by simp; omega, okFs_snoc ho (by omega) hf, hw, hh⟩⟩
def spAScn_A : Unit → List AV
  | () => [.c .rdr]
def spAScn_pre : Unit → Prop
  | () => True
def spAScn_post : Unit → AV → List Box → Prop
  | (), r, bs => ∃ c : Scn, r = .agg (scC c) ∧ bs = [] ∧ okScn c
def spAScn : VE.Spec := famSpecS spAScn_A d_r spAScn_pre spAScn_post 1300 false
theorem spAScn_q : SpQ spAScn false [] true 1300 (fun a i => i = [] ∧ famPre d_r spAScn_A spAScn_pre a) (fun a i r b => famPost d_r spAScn_post a r b) := ⟨rfl, rfl, rfl, rfl, fun _ _ => rfl, fun _ _ _ _ => rfl⟩
def tb16 : Nat → Option VE.Spec := tabOf [(42, wkIn spPick), (40, wkIn spOne), (41, wkIn spRFil), (43, wkIn spAFil)]
theorem tb16_42 : tb16 42 = some (wkIn spPick) := rfl
theorem tb16_40 : tb16 40 = some (wkIn spOne) := rfl
theorem tb16_41 : tb16 41 = some (wkIn spRFil) := rfl
theorem tb16_43 : tb16 43 = some (wkIn spAFil) := rfl
theorem tb16_ok : TabOK Tryz.prog rt0 tb16 := (tabOf_cons (by kernel_rfl) sat_spec_reader_pick (tabOf_cons (by kernel_rfl) sat_spec_reader_one (tabOf_cons (by kernel_rfl) sat_spec_randomFill (tabOf_cons (by kernel_rfl) sat_spec_anyFill tabOf_nil))))
section
attribute [local go_sem] Tryz.f16 tb16_42 tb16_40 tb16_41 tb16_43 spAScn_q spAScn_A spAScn_pre spAScn_post spPick_q spPick_A spPick_pre spPick_post spOne_q spOne_A spOne_pre spOne_post spRFil_q spRFil_A spRFil_pre spRFil_post spAFil_q spAFil_A spAFil_pre spAFil_post
set_option maxHeartbeats 4000000 in
theorem sat_spec_anyScene_0 : Sat Tryz.prog rt0 16 (wkOut spAScn) := by
  refine fn_sat hm ttok (tab := tb16) tb16_ok Tryz.func16 (c := Tryz.f16.body.getD .skip) (by kernel_rfl) (ts := [.cell 2 25]) (by kernel_rfl) Tryz.ntmps16 (sq := fun _ => true) (by kernel_rfl) ?_
  intro args ins pk hpre0 hpk
  obtain ⟨rfl, hpre0⟩ := hpre0
  obtain ⟨⟨⟩, rfl, hpre, hdec⟩ := famPre_ex hpre0
  clear hpre0 hdec
  try simp only [spAScn_pre] at hpre
  replace hpk : pk + 1300 ≤ pickLimit := hpk
  refine ⟨nle rfl, ?_⟩
  simp (maxSteps := 1000000) only [go_sem, Picks]
  repeat' first | apply And.intro | intro _ | omega | assumption | with_reducible rfl
  all_goals try (simp only [List.mem_cons, List.not_mem_nil, or_false] at *)
  any_goals
    refine loopS (α := (List Fil) × Int) false [1, 4, 5, 6, 7, 8, 9, 10, 11, 12, 13, 14, 15, 16, 17, 18, 19, 20, 21, 22, 23, 24, 25, 28, 34] (fun σ => [gId (σ.get 4)]) (fun σ x => [(4, .c (.own (gId (σ.get 4)) (x.1).length false)), (5, I x.2)]) (fun σ x => [(gId (σ.get 4), some ⟨(x.1).map flC, 7, 45, true, false⟩)]) (fun (o, n) => 200 * o.length) (fun σ => (gL flCd σ (σ.get 4), gI (σ.get 5))) (fun σ τ => [(gId (σ.get 4), gId (τ.get 4))]) (fun (o, n) => (0 ≤ n ∧ o.length + n ≤ 4) ∧ okFs o) (fun (o, n) => n.toNat) ⟨by (simp (maxSteps := 1000000) only [go_sem, Picks]; (repeat' first | apply And.intro | intro _ | omega | assumption | with_reducible rfl); all_goals (first | omega | exact okFs_nil)), ?_⟩
    rintro ⟨o, n⟩ hinv
    try dsimp only at hinv
    simp (maxSteps := 1000000) only [go_sem, Picks]
    repeat' first | apply And.intro | intro _ | omega | assumption | with_reducible rfl
  
  all_goals (first | omega | (exact okFs_snoc hinv.2 (by omega) ‹okF _›) | ((refine ex_scn hinv.2 (by omega) ‹okF _› ?_ ?_ <;> omega); done) | ((refine ⟨by dsimp only; omega, hinv.2, ?_, ?_⟩ <;> (try simp only [List.mem_cons, List.not_mem_nil, or_false] at *) <;> (try dsimp only) <;> omega); done))
end
theorem sat_spec_anyScene : Sat Tryz.prog rt0 16 (wkIn spAScn) := sat_in (sat_out sat_spec_anyScene_0)
end
end Go.Proofs.YtcejoknapbhloaaGreat
