/- Contracts of functions of the program vectorraster, each proved for all states that fit its description. No conditions. -/
import Derived.Test.YtcejoknapbhloaaGreatKK
set_option linter.unusedSimpArgs false
set_option linter.unusedVariables false
set_option maxRecDepth 100000
namespace Go.Proofs.YtcejoknapbhloaaGreat
open Go Go.VE
section
def spIn_A : Int × Int × Int → List AV
  | (n, lo, hi) => [I n, I lo, I hi]
def spIn_pre : Int × Int × Int → Prop
  | (n, lo, hi) => True
def spIn_post : Int × Int × Int → AV → List Box → Prop
  | (n, lo, hi), r, bs => r = B (decide (lo ≤ n ∧ n ≤ hi)) ∧ bs = []
def spIn : VE.Spec := famSpec spIn_A d_i_i_i spIn_pre spIn_post 0 true
theorem spIn_q : SpQ spIn true [] false 0 (fun a i => i = [] ∧ famPre d_i_i_i spIn_A spIn_pre a) (fun a i r b => famPost d_i_i_i spIn_post a r b) := ⟨rfl, rfl, rfl, rfl, fun _ _ => rfl, fun _ _ _ _ => rfl⟩
def tb48 : Nat → Option VE.Spec := tabOf []
theorem tb48_ok : TabOK Tryz.prog rt0 tb48 := tabOf_nil
set_option maxHeartbeats 4000000 in
theorem sat_impl_in_0 : Sat Tryz.prog rt0 48 (wkOut spIn) := by
  refine fn_sat hm ttok (tab := tb48) tb48_ok Tryz.func48 (c := Tryz.f48.body.getD .skip) (by kernel_rfl) (ts := [.tmp 6]) (by kernel_rfl) Tryz.ntmps48 (sq := fun _ => true) (by kernel_rfl) ?_
  intro args ins pk hpre0 hpk
  obtain ⟨rfl, hpre0⟩ := hpre0
  obtain ⟨⟨n, lo, hi⟩, rfl, hpre, hdec⟩ := famPre_ex hpre0
  clear hpre0 hdec
  try simp only [spIn_pre] at hpre
  replace hpk : pk + 0 ≤ pickLimit := hpk
  refine ⟨nle rfl, ?_⟩
  simp (maxSteps := 1000000) only [go_sem, Tryz.f48, spIn_q, spIn_A, spIn_pre, spIn_post]
  repeat' first | apply And.intro | intro _ | omega | assumption | with_reducible rfl
  all_goals (first | ((simp only [decide_eq_decide, true_eq_decide_iff, false_eq_decide_iff, Bool.not_eq_eq_eq_not, Bool.not_true, Bool.not_false]; omega); done))
theorem sat_impl_in : Sat Tryz.prog rt0 48 (wkIn spIn) := sat_in (sat_out sat_impl_in_0)
def tb35 : Nat → Option VE.Spec := tabOf []
theorem tb35_ok : TabOK Tryz.prog rt0 tb35 := tabOf_nil
set_option maxHeartbeats 4000000 in
theorem sat_spec_inRange_0 : Sat Tryz.prog rt0 35 (wkOut spIn) := by
  refine fn_sat hm ttok (tab := tb35) tb35_ok Tryz.func35 (c := Tryz.f35.body.getD .skip) (by kernel_rfl) (ts := [.tmp 6]) (by kernel_rfl) Tryz.ntmps35 (sq := fun _ => true) (by kernel_rfl) ?_
  intro args ins pk hpre0 hpk
  obtain ⟨rfl, hpre0⟩ := hpre0
  obtain ⟨⟨n, lo, hi⟩, rfl, hpre, hdec⟩ := famPre_ex hpre0
  clear hpre0 hdec
  try simp only [spIn_pre] at hpre
  replace hpk : pk + 0 ≤ pickLimit := hpk
  refine ⟨nle rfl, ?_⟩
  simp (maxSteps := 1000000) only [go_sem, Tryz.f35, spIn_q, spIn_A, spIn_pre, spIn_post]
  repeat' first | apply And.intro | intro _ | omega | assumption | with_reducible rfl
  all_goals (first | ((simp only [decide_eq_decide, true_eq_decide_iff, false_eq_decide_iff, Bool.not_eq_eq_eq_not, Bool.not_true, Bool.not_false]; omega); done))
theorem sat_spec_inRange : Sat Tryz.prog rt0 35 (wkIn spIn) := sat_in (sat_out sat_spec_inRange_0)
def isU (n : Int) : Bool := decide (-1000 ≤ n ∧ n ≤ 1000)
theorem isU_iff {n : Int} : isU n = true ↔ -1000 ≤ n ∧ n ≤ 1000 := by simp [isU]
def vPt (p : Pt) : Bool := isU p.x && isU p.y
def vPts (l : List Pt) : Bool := decide (l.length ≤ 40) && l.all vPt
def spIsU_A : Int → List AV
  | n => [I n]
def spIsU_pre : Int → Prop
  | n => True
def spIsU_post : Int → AV → List Box → Prop
  | n, r, bs => r = B (isU n) ∧ bs = []
def spIsU : VE.Spec := famSpec spIsU_A d_i spIsU_pre spIsU_post 0 true
theorem spIsU_q : SpQ spIsU true [] false 0 (fun a i => i = [] ∧ famPre d_i spIsU_A spIsU_pre a) (fun a i r b => famPost d_i spIsU_post a r b) := ⟨rfl, rfl, rfl, rfl, fun _ _ => rfl, fun _ _ _ _ => rfl⟩
def tb155 : Nat → Option VE.Spec := tabOf [(48, wkIn spIn)]
theorem tb155_48 : tb155 48 = some (wkIn spIn) := rfl
theorem tb155_ok : TabOK Tryz.prog rt0 tb155 := (tabOf_cons (by kernel_rfl) sat_impl_in tabOf_nil)
set_option maxHeartbeats 4000000 in
theorem sat_impl_isUnit_0 : Sat Tryz.prog rt0 155 (wkOut spIsU) := by
  refine fn_sat hm ttok (tab := tb155) tb155_ok Tryz.func155 (c := Tryz.f155.body.getD .skip) (by kernel_rfl) (ts := [.tmp 2]) (by kernel_rfl) Tryz.ntmps155 (sq := fun _ => true) (by kernel_rfl) ?_
  intro args ins pk hpre0 hpk
  obtain ⟨rfl, hpre0⟩ := hpre0
  obtain ⟨n, rfl, hpre, hdec⟩ := famPre_ex hpre0
  clear hpre0 hdec
  try simp only [spIsU_pre] at hpre
  replace hpk : pk + 0 ≤ pickLimit := hpk
  refine ⟨nle rfl, ?_⟩
  simp (maxSteps := 1000000) only [go_sem, Tryz.f155, tb155_48, spIsU_q, spIsU_A, spIsU_pre, spIsU_post, spIn_q, spIn_A, spIn_pre, spIn_post, isU]
  repeat' first | apply And.intro | intro _ | omega | assumption | with_reducible rfl
theorem sat_impl_isUnit : Sat Tryz.prog rt0 155 (wkIn spIsU) := sat_in (sat_out sat_impl_isUnit_0)
def spVPt_A : Pt → List AV
  | p => [.agg (ptC p)]
def spVPt_pre : Pt → Prop
  | p => True
def spVPt_post : Pt → AV → List Box → Prop
  | p, r, bs => r = B (vPt p) ∧ bs = []
def spVPt : VE.Spec := famSpec spVPt_A d_pt spVPt_pre spVPt_post 0 true
theorem spVPt_q : SpQ spVPt true [] false 0 (fun a i => i = [] ∧ famPre d_pt spVPt_A spVPt_pre a) (fun a i r b => famPost d_pt spVPt_post a r b) := ⟨rfl, rfl, rfl, rfl, fun _ _ => rfl, fun _ _ _ _ => rfl⟩
def tb119 : Nat → Option VE.Spec := tabOf [(155, wkIn spIsU)]
theorem tb119_155 : tb119 155 = some (wkIn spIsU) := rfl
theorem tb119_ok : TabOK Tryz.prog rt0 tb119 := (tabOf_cons (by kernel_rfl) sat_impl_isUnit tabOf_nil)
set_option maxHeartbeats 4000000 in
theorem sat_impl_Point_valid_0 : Sat Tryz.prog rt0 119 (wkOut spVPt) := by
  refine fn_sat hm ttok (tab := tb119) tb119_ok Tryz.func119 (c := Tryz.f119.body.getD .skip) (by kernel_rfl) (ts := [.tmp 2]) (by kernel_rfl) Tryz.ntmps119 (sq := fun _ => true) (by kernel_rfl) ?_
  intro args ins pk hpre0 hpk
  obtain ⟨rfl, hpre0⟩ := hpre0
  obtain ⟨p, rfl, hpre, hdec⟩ := famPre_ex hpre0
  clear hpre0 hdec
  try simp only [spVPt_pre] at hpre
  replace hpk : pk + 0 ≤ pickLimit := hpk
  refine ⟨nle rfl, ?_⟩
  simp (maxSteps := 1000000) only [go_sem, Tryz.f119, tb119_155, spVPt_q, spVPt_A, spVPt_pre, spVPt_post, spIsU_q, spIsU_A, spIsU_pre, spIsU_post]
  repeat' first | apply And.intro | intro _ | omega | assumption | with_reducible rfl
  all_goals (first | (simp_all [vPt]; done))
theorem sat_impl_Point_valid : Sat Tryz.prog rt0 119 (wkIn spVPt) := sat_in (sat_out sat_impl_Point_valid_0)
def tb102 : Nat → Option VE.Spec := tabOf [(35, wkIn spIn)]
theorem tb102_35 : tb102 35 = some (wkIn spIn) := rfl
theorem tb102_ok : TabOK Tryz.prog rt0 tb102 := (tabOf_cons (by kernel_rfl) sat_spec_inRange tabOf_nil)
set_option maxHeartbeats 4000000 in
theorem sat_spec_validPoint_0 : Sat Tryz.prog rt0 102 (wkOut spVPt) := by
  refine fn_sat hm ttok (tab := tb102) tb102_ok Tryz.func102 (c := Tryz.f102.body.getD .skip) (by kernel_rfl) (ts := [.tmp 2]) (by kernel_rfl) Tryz.ntmps102 (sq := fun _ => true) (by kernel_rfl) ?_
  intro args ins pk hpre0 hpk
  obtain ⟨rfl, hpre0⟩ := hpre0
  obtain ⟨p, rfl, hpre, hdec⟩ := famPre_ex hpre0
  clear hpre0 hdec
  try simp only [spVPt_pre] at hpre
  replace hpk : pk + 0 ≤ pickLimit := hpk
  refine ⟨nle rfl, ?_⟩
  simp (maxSteps := 1000000) only [go_sem, Tryz.f102, tb102_35, spVPt_q, spVPt_A, spVPt_pre, spVPt_post, spIn_q, spIn_A, spIn_pre, spIn_post]
  repeat' first | apply And.intro | intro _ | omega | assumption | with_reducible rfl
  all_goals (first | (grind [vPt, isU]; done))
theorem sat_spec_validPoint : Sat Tryz.prog rt0 102 (wkIn spVPt) := sat_in (sat_out sat_spec_validPoint_0)
def spNVPt_A : Pt → List AV
  | p => [.agg (ptC p)]
def spNVPt_pre : Pt → Prop
  | p => True
def spNVPt_post : Pt → AV → List Box → Prop
  | p, r, bs => r = B (!vPt p) ∧ bs = []
def spNVPt : VE.Spec := famSpec spNVPt_A d_pt spNVPt_pre spNVPt_post 0 true
theorem spNVPt_q : SpQ spNVPt true [] false 0 (fun a i => i = [] ∧ famPre d_pt spNVPt_A spNVPt_pre a) (fun a i r b => famPost d_pt spNVPt_post a r b) := ⟨rfl, rfl, rfl, rfl, fun _ _ => rfl, fun _ _ _ _ => rfl⟩
def tb150 : Nat → Option VE.Spec := tabOf [(119, wkIn spVPt)]
theorem tb150_119 : tb150 119 = some (wkIn spVPt) := rfl
theorem tb150_ok : TabOK Tryz.prog rt0 tb150 := (tabOf_cons (by kernel_rfl) sat_impl_Point_valid tabOf_nil)
set_option maxHeartbeats 4000000 in
theorem sat_impl_pointsValid_1_0 : Sat Tryz.prog rt0 150 (wkOut spNVPt) := by
  refine fn_sat hm ttok (tab := tb150) tb150_ok Tryz.func150 (c := Tryz.f150.body.getD .skip) (by kernel_rfl) (ts := [.tmp 2]) (by kernel_rfl) Tryz.ntmps150 (sq := fun _ => true) (by kernel_rfl) ?_
  intro args ins pk hpre0 hpk
  obtain ⟨rfl, hpre0⟩ := hpre0
  obtain ⟨p, rfl, hpre, hdec⟩ := famPre_ex hpre0
  clear hpre0 hdec
  try simp only [spNVPt_pre] at hpre
  replace hpk : pk + 0 ≤ pickLimit := hpk
  refine ⟨nle rfl, ?_⟩
  simp (maxSteps := 1000000) only [go_sem, Tryz.f150, tb150_119, spNVPt_q, spNVPt_A, spNVPt_pre, spNVPt_post, spVPt_q, spVPt_A, spVPt_pre, spVPt_post]
  repeat' first | apply And.intro | intro _ | omega | assumption | with_reducible rfl
theorem sat_impl_pointsValid_1 : Sat Tryz.prog rt0 150 (wkIn spNVPt) := sat_in (sat_out sat_impl_pointsValid_1_0)
def spIdx_A : (List Pt) → List AV
  | l => [.c (.sl false (l.map ptC)), .c (.fn 150 [])]
def spIdx_pre : (List Pt) → Prop
  | l => l.length ≤ 1000000000
def spIdx_post : (List Pt) → AV → List Box → Prop
  | l, r, bs => ∃ m, r = I m ∧ bs = [] ∧ decide (0 ≤ m) = (!l.all vPt)
def spIdx : VE.Spec := famSpec spIdx_A d_lpt_f150 spIdx_pre spIdx_post 0 true
theorem spIdx_q : SpQ spIdx true [] false 0 (fun a i => i = [] ∧ famPre d_lpt_f150 spIdx_A spIdx_pre a) (fun a i r b => famPost d_lpt_f150 spIdx_post a r b) := ⟨rfl, rfl, rfl, rfl, fun _ _ => rfl, fun _ _ _ _ => rfl⟩
def tb167 : Nat → Option VE.Spec := tabOf [(150, wkIn spNVPt)]
theorem tb167_150 : tb167 150 = some (wkIn spNVPt) := rfl
theorem tb167_ok : TabOK Tryz.prog rt0 tb167 := (tabOf_cons (by kernel_rfl) sat_impl_pointsValid_1 tabOf_nil)
section
attribute [local go_sem] Tryz.f167 tb167_150 spIdx_q spIdx_A spIdx_pre spIdx_post spNVPt_q spNVPt_A spNVPt_pre spNVPt_post
set_option maxHeartbeats 4000000 in
theorem sat_slices_IndexFunc_impl_Point_impl_Point_0 : Sat Tryz.prog rt0 167 (wkOut spIdx) := by
  refine fn_sat hm ttok (tab := tb167) tb167_ok Tryz.func167 (c := Tryz.f167.body.getD .skip) (by kernel_rfl) (ts := [.tmp 4]) (by kernel_rfl) Tryz.ntmps167 (sq := fun _ => true) (by kernel_rfl) ?_
  intro args ins pk hpre0 hpk
  obtain ⟨rfl, hpre0⟩ := hpre0
  obtain ⟨l, rfl, hpre, hdec⟩ := famPre_ex hpre0
  clear hpre0 hdec
  try simp only [spIdx_pre] at hpre
  replace hpk : pk + 0 ≤ pickLimit := hpk
  refine ⟨nle rfl, ?_⟩
  simp (maxSteps := 1000000) only [go_sem]
  repeat' first | apply And.intro | intro _ | omega | assumption | with_reducible rfl
  refine loopS (α := Int) false [2, 3, 4, 5, 6, 8, 9, 10, 11, 12, 13, 14, 15, 16, 17, 18] (fun σ => []) (fun σ x => [(8, I x)]) (fun σ x => []) (fun i => 0) (fun σ => gI (σ.get 8)) (fun σ τ => []) (fun i => 0 ≤ i ∧ i ≤ l.length ∧ (l.take i.toNat).all vPt = true) (fun i => (l.length - i).toNat) ⟨by (simp (maxSteps := 1000000) only [go_sem]; (repeat' first | apply And.intro | intro _ | omega | assumption | with_reducible rfl)), ?_⟩
  rintro i hinv
  try dsimp only at hinv
  simp (maxSteps := 1000000) only [go_sem]
  repeat' first | apply And.intro | intro _ | omega | assumption | with_reducible rfl
  all_goals (first | (grind [→ takeN, takeA, all_bad]; done))
end
theorem sat_slices_IndexFunc_impl_Point_impl_Point : Sat Tryz.prog rt0 167 (wkIn spIdx) := sat_in (sat_out sat_slices_IndexFunc_impl_Point_impl_Point_0)
end
section
def spHas_A : (List Pt) → List AV
  | l => [.c (.sl false (l.map ptC)), .c (.fn 150 [])]
def spHas_pre : (List Pt) → Prop
  | l => l.length ≤ 1000000000
def spHas_post : (List Pt) → AV → List Box → Prop
  | l, r, bs => r = B (!l.all vPt) ∧ bs = []
def spHas : VE.Spec := famSpec spHas_A d_lpt_f150 spHas_pre spHas_post 0 true
theorem spHas_q : SpQ spHas true [] false 0 (fun a i => i = [] ∧ famPre d_lpt_f150 spHas_A spHas_pre a) (fun a i r b => famPost d_lpt_f150 spHas_post a r b) := ⟨rfl, rfl, rfl, rfl, fun _ _ => rfl, fun _ _ _ _ => rfl⟩
def tb149 : Nat → Option VE.Spec := tabOf [(167, wkIn spIdx)]
theorem tb149_167 : tb149 167 = some (wkIn spIdx) := rfl
theorem tb149_ok : TabOK Tryz.prog rt0 tb149 := (tabOf_cons (by kernel_rfl) sat_slices_IndexFunc_impl_Point_impl_Point tabOf_nil)
set_option maxHeartbeats 4000000 in
theorem sat_slices_ContainsFunc_impl_Point_impl_Point_0 : Sat Tryz.prog rt0 149 (wkOut spHas) := by
  refine fn_sat hm ttok (tab := tb149) tb149_ok Tryz.func149 (c := Tryz.f149.body.getD .skip) (by kernel_rfl) (ts := [.tmp 4]) (by kernel_rfl) Tryz.ntmps149 (sq := fun _ => true) (by kernel_rfl) ?_
  intro args ins pk hpre0 hpk
  obtain ⟨rfl, hpre0⟩ := hpre0
  obtain ⟨l, rfl, hpre, hdec⟩ := famPre_ex hpre0
  clear hpre0 hdec
  try simp only [spHas_pre] at hpre
  replace hpk : pk + 0 ≤ pickLimit := hpk
  refine ⟨nle rfl, ?_⟩
  simp (maxSteps := 1000000) only [go_sem, Tryz.f149, tb149_167, spHas_q, spHas_A, spHas_pre, spHas_post, spIdx_q, spIdx_A, spIdx_pre, spIdx_post]
  repeat' first | apply And.intro | intro _ | omega | assumption | with_reducible rfl
  all_goals (first | (grind; done))
theorem sat_slices_ContainsFunc_impl_Point_impl_Point : Sat Tryz.prog rt0 149 (wkIn spHas) := sat_in (sat_out sat_slices_ContainsFunc_impl_Point_impl_Point_0)
def spVPts_A : (List Pt) → List AV
  | l => [.c (.sl false (l.map ptC))]
def spVPts_pre : (List Pt) → Prop
  | l => l.length ≤ 1000000000
def spVPts_post : (List Pt) → AV → List Box → Prop
  | l, r, bs => r = B (vPts l) ∧ bs = []
def spVPts : VE.Spec := famSpec spVPts_A d_lpt spVPts_pre spVPts_post 0 true
theorem spVPts_q : SpQ spVPts true [] false 0 (fun a i => i = [] ∧ famPre d_lpt spVPts_A spVPts_pre a) (fun a i r b => famPost d_lpt spVPts_post a r b) := ⟨rfl, rfl, rfl, rfl, fun _ _ => rfl, fun _ _ _ _ => rfl⟩
def tb114 : Nat → Option VE.Spec := tabOf [(149, wkIn spHas)]
theorem tb114_149 : tb114 149 = some (wkIn spHas) := rfl
theorem tb114_ok : TabOK Tryz.prog rt0 tb114 := (tabOf_cons (by kernel_rfl) sat_slices_ContainsFunc_impl_Point_impl_Point tabOf_nil)
set_option maxHeartbeats 4000000 in
theorem sat_impl_pointsValid_0 : Sat Tryz.prog rt0 114 (wkOut spVPts) := by
  refine fn_sat hm ttok (tab := tb114) tb114_ok Tryz.func114 (c := Tryz.f114.body.getD .skip) (by kernel_rfl) (ts := [.tmp 2]) (by kernel_rfl) Tryz.ntmps114 (sq := fun _ => true) (by kernel_rfl) ?_
  intro args ins pk hpre0 hpk
  obtain ⟨rfl, hpre0⟩ := hpre0
  obtain ⟨l, rfl, hpre, hdec⟩ := famPre_ex hpre0
  clear hpre0 hdec
  try simp only [spVPts_pre] at hpre
  replace hpk : pk + 0 ≤ pickLimit := hpk
  refine ⟨nle rfl, ?_⟩
  simp (maxSteps := 1000000) only [go_sem, Tryz.f114, tb114_149, spVPts_q, spVPts_A, spVPts_pre, spVPts_post, spHas_q, spHas_A, spHas_pre, spHas_post, vPts]
  repeat' first | apply And.intro | intro _ | omega | assumption | with_reducible rfl
  all_goals (first | ((simp only [decide_eq_decide, true_eq_decide_iff, false_eq_decide_iff, Bool.not_eq_eq_eq_not, Bool.not_true, Bool.not_false]; omega); done) | (grind; done))
theorem sat_impl_pointsValid : Sat Tryz.prog rt0 114 (wkIn spVPts) := sat_in (sat_out sat_impl_pointsValid_0)
def tb99 : Nat → Option VE.Spec := tabOf [(102, wkIn spVPt)]
theorem tb99_102 : tb99 102 = some (wkIn spVPt) := rfl
theorem tb99_ok : TabOK Tryz.prog rt0 tb99 := (tabOf_cons (by kernel_rfl) sat_spec_validPoint tabOf_nil)
section
attribute [local go_sem] Tryz.f99 tb99_102 spVPts_q spVPts_A spVPts_pre spVPts_post spVPt_q spVPt_A spVPt_pre spVPt_post
set_option maxHeartbeats 4000000 in
theorem sat_spec_validPoints_0 : Sat Tryz.prog rt0 99 (wkOut spVPts) := by
  refine fn_sat hm ttok (tab := tb99) tb99_ok Tryz.func99 (c := Tryz.f99.body.getD .skip) (by kernel_rfl) (ts := [.tmp 2]) (by kernel_rfl) Tryz.ntmps99 (sq := fun _ => true) (by kernel_rfl) ?_
  intro args ins pk hpre0 hpk
  obtain ⟨rfl, hpre0⟩ := hpre0
  obtain ⟨l, rfl, hpre, hdec⟩ := famPre_ex hpre0
  clear hpre0 hdec
  try simp only [spVPts_pre] at hpre
  replace hpk : pk + 0 ≤ pickLimit := hpk
  refine ⟨nle rfl, ?_⟩
  simp (maxSteps := 1000000) only [go_sem]
  repeat' first | apply And.intro | intro _ | omega | assumption | with_reducible rfl
  refine loopS (α := Int) false [1, 2, 3, 4, 5, 6, 7, 8, 9, 10, 11, 12, 13, 14, 15] (fun σ => []) (fun σ x => [(3, I x)]) (fun σ x => []) (fun i => 0) (fun σ => gI (σ.get 3)) (fun σ τ => []) (fun i => 0 ≤ i ∧ i ≤ l.length ∧ (l.take i.toNat).all vPt = true) (fun i => (l.length - i).toNat) ⟨by (simp (maxSteps := 1000000) only [go_sem]; (repeat' first | apply And.intro | intro _ | omega | assumption | with_reducible rfl)), ?_⟩
  rintro i hinv
  try dsimp only at hinv
  simp (maxSteps := 1000000) only [go_sem]
  repeat' first | apply And.intro | intro _ | omega | assumption | with_reducible rfl
  all_goals (first | (grind [→ takeN, takeA, all_bad, vPts]; done))
end
theorem sat_spec_validPoints : Sat Tryz.prog rt0 99 (wkIn spVPts) := sat_in (sat_out sat_spec_validPoints_0)
def total {α : Type} (L : List (List α)) : Nat := (L.map List.length).sum
theorem total_snoc {α : Type} (L : List (List α)) (l : List α) : total (L ++ [l]) = total L + l.length := by simp [total]
theorem total_take {α : Type} (L : List (List α)) (i : Nat) : total (L.take i) ≤ total L := by
  have h := List.take_append_drop i L
  have : total L = total (L.take i) + total (L.drop i) := by
    conv => lhs; rw [← h]
    simp only [total, List.map_append, List.sum_append]
  omega
def vRing (r : List Pt) : Bool := !r.isEmpty && vPts r
def vRings (L : List (List Pt)) : Bool := L.all vRing && decide (L.length ≤ 8) && decide (total L ≤ 200)
theorem vRing_iff (r : List Pt) : vRing r = (!decide (r.length = 0) && vPts r) := by cases r <;> simp [vRing]
theorem total_mem {α : Type} {L : List (List α)} {i : Nat} {r : List α} (h : L[i]? = some r) : total (L.take i) + r.length ≤ total L := by
  have := total_take L (i + 1)
  rw [List.take_add_one, h] at this
  simp only [Option.toList_some, total_snoc] at this
  exact this
def spVRings_A : (List (List Pt)) → List AV
  | L => [.c (.sl false (L.map lptC))]
def spVRings_pre : (List (List Pt)) → Prop
  | L => L.length ≤ 1000000000 ∧ total L ≤ 1000000000
def spVRings_post : (List (List Pt)) → AV → List Box → Prop
  | L, r, bs => r = B (vRings L) ∧ bs = []
def spVRings : VE.Spec := famSpec spVRings_A d_llpt spVRings_pre spVRings_post 0 true
theorem spVRings_q : SpQ spVRings true [] false 0 (fun a i => i = [] ∧ famPre d_llpt spVRings_A spVRings_pre a) (fun a i r b => famPost d_llpt spVRings_post a r b) := ⟨rfl, rfl, rfl, rfl, fun _ _ => rfl, fun _ _ _ _ => rfl⟩
def tb76 : Nat → Option VE.Spec := tabOf [(114, wkIn spVPts)]
theorem tb76_114 : tb76 114 = some (wkIn spVPts) := rfl
theorem tb76_ok : TabOK Tryz.prog rt0 tb76 := (tabOf_cons (by kernel_rfl) sat_impl_pointsValid tabOf_nil)
section
attribute [local go_sem] Tryz.f76 tb76_114 spVRings_q spVRings_A spVRings_pre spVRings_post spVPts_q spVPts_A spVPts_pre spVPts_post
set_option maxHeartbeats 4000000 in
theorem sat_impl_ValidRings_0 : Sat Tryz.prog rt0 76 (wkOut spVRings) := by
  refine fn_sat hm ttok (tab := tb76) tb76_ok Tryz.func76 (c := Tryz.f76.body.getD .skip) (by kernel_rfl) (ts := [.tmp 2]) (by kernel_rfl) Tryz.ntmps76 (sq := fun _ => true) (by kernel_rfl) ?_
  intro args ins pk hpre0 hpk
  obtain ⟨rfl, hpre0⟩ := hpre0
  obtain ⟨L, rfl, hpre, hdec⟩ := famPre_ex hpre0
  clear hpre0 hdec
  try simp only [spVRings_pre] at hpre
  replace hpk : pk + 0 ≤ pickLimit := hpk
  refine ⟨nle rfl, ?_⟩
  simp (maxSteps := 1000000) only [go_sem]
  repeat' first | apply And.intro | intro _ | omega | assumption | with_reducible rfl
  refine loopS (α := Int × Int) false [1, 2, 3, 4, 5, 8, 9, 10, 11, 12, 13, 14, 15, 16, 17, 18, 19, 20, 21, 22, 23, 24] (fun σ => []) (fun σ x => [(3, I x.1), (8, I x.2)]) (fun σ x => []) (fun (c, i) => 0) (fun σ => (gI (σ.get 3), gI (σ.get 8))) (fun σ τ => []) (fun (c, i) => 0 ≤ i ∧ i ≤ L.length ∧ (L.take i.toNat).all vRing = true ∧ c = total (L.take i.toNat)) (fun (c, i) => (L.length - i).toNat) ⟨by (simp (maxSteps := 1000000) only [go_sem]; (repeat' first | apply And.intro | intro _ | omega | assumption | with_reducible rfl); all_goals (first | grind [total])), ?_⟩
  rintro ⟨c, i⟩ hinv
  try dsimp only at hinv
  simp (maxSteps := 1000000) only [go_sem]
  repeat' first | apply And.intro | intro _ | omega | assumption | with_reducible rfl
  all_goals (first | (grind [→ takeN, takeA, all_bad, total_snoc, → total_mem, vRing_iff, vRings]; done))
end
theorem sat_impl_ValidRings : Sat Tryz.prog rt0 76 (wkIn spVRings) := sat_in (sat_out sat_impl_ValidRings_0)
end
theorem fdiv_eq (a b : Int) : a / b = if 0 < b then (if a.tmod b < 0 then a.tdiv b - 1 else a.tdiv b) else a / b := by
  split
  · rename_i hb
    have e := Int.mul_tdiv_add_tmod a b
    have e1 := Int.mul_ediv_add_emod a b
    have m1 := Int.emod_nonneg a (by omega : b ≠ 0)
    have m2 := Int.emod_lt_of_pos a hb
    have t1 := Int.tmod_lt_of_pos a hb
    have t0 : -b < a.tmod b := by
      rcases Int.lt_or_le a 0 with ha | ha
      · have := Int.tmod_lt_of_pos (-a) hb
        rw [Int.neg_tmod] at this
        omega
      · have := Int.tmod_nonneg b ha
        omega
    generalize a / b = q at *
    generalize a % b = r at *
    generalize a.tdiv b = s at *
    generalize a.tmod b = t at *
    have hk : b * (q - s) = t - r := by rw [Int.mul_sub]; omega
    have h1 : q - s < 1 ∧ -2 < q - s := by
      constructor
      · by_cases h : q - s < 1
        · exact h
        · have := Int.mul_le_mul_of_nonneg_left (show 1 ≤ q - s by omega) (show 0 ≤ b by omega)
          omega
      · by_cases h : -2 < q - s
        · exact h
        · have := Int.mul_le_mul_of_nonneg_left (show q - s ≤ -2 by omega) (show 0 ≤ b by omega)
          omega
    have h2 : q - s = 0 ∨ q - s = -1 := by omega
    rcases h2 with h2 | h2 <;> rw [h2] at hk <;> split <;> omega
  · rfl
def insN (n rule : Int) : Bool := if rule = 1 then decide (n % 2 = 1) else decide (n ≠ 0)
def isRl (n : Int) : Bool := decide (n = 0 ∨ n = 1)
def szd (w h : Int) : Bool := decide ((1 ≤ w ∧ w ≤ 12) ∧ 1 ≤ h ∧ h ≤ 12)
def acr (w : Int) : Int := (w + 3) / 4
def tcnt (w h : Int) : Int := if szd w h = true then acr w * acr h else -1
def isT (w h t : Int) : Bool := szd w h && decide (0 ≤ t ∧ t < acr w * acr h)
def tbox (w h t : Int) : Bx := ⟨t % acr w * 4, t / acr w * 4, min (t % acr w * 4 + 4) w, min (t / acr w * 4 + 4) h⟩
theorem acr_in {w : Int} (h : 1 ≤ w ∧ w ≤ 12) : 1 ≤ acr w ∧ acr w ≤ 3 := by unfold acr; omega
theorem acr_mul {w h : Int} (hs : szd w h = true) : (1 ≤ acr w ∧ acr w ≤ 3) ∧ (1 ≤ acr h ∧ acr h ≤ 3) ∧ 1 ≤ acr w * acr h ∧ acr w * acr h ≤ 9 := by
  simp only [szd, decide_eq_true_eq] at hs
  have h1 := acr_in hs.1
  have h2 := acr_in hs.2
  refine ⟨h1, h2, ?_, ?_⟩
  · have := Int.mul_le_mul h1.1 h2.1 (by omega) (by omega); omega
  · have := Int.mul_le_mul h1.2 h2.2 (by omega) (by omega); omega
theorem tdiv_nn {a b : Int} (h : 0 ≤ a) : a.tdiv b = a / b := Int.tdiv_eq_ediv_of_nonneg h
theorem tmod_nn {a b : Int} (h : 0 ≤ a) : a.tmod b = a % b := Int.tmod_eq_emod_of_nonneg h
theorem tmod2 (n : Int) : n.tmod 2 ≠ 0 ↔ n % 2 = 1 := by
  constructor <;> intro h <;> (have := Int.tmod_eq_emod (a := n) (b := 2); split at this <;> omega)
def spRl_A : Int → List AV
  | n => [I n]
def spRl_pre : Int → Prop
  | n => True
def spRl_post : Int → AV → List Box → Prop
  | n, r, bs => r = B (isRl n) ∧ bs = []
def spRl : VE.Spec := famSpec spRl_A d_i spRl_pre spRl_post 0 true
theorem spRl_q : SpQ spRl true [] false 0 (fun a i => i = [] ∧ famPre d_i spRl_A spRl_pre a) (fun a i r b => famPost d_i spRl_post a r b) := ⟨rfl, rfl, rfl, rfl, fun _ _ => rfl, fun _ _ _ _ => rfl⟩
def tb78 : Nat → Option VE.Spec := tabOf []
theorem tb78_ok : TabOK Tryz.prog rt0 tb78 := tabOf_nil
set_option maxHeartbeats 4000000 in
theorem sat_impl_isRule_0 : Sat Tryz.prog rt0 78 (wkOut spRl) := by
  refine fn_sat hm ttok (tab := tb78) tb78_ok Tryz.func78 (c := Tryz.f78.body.getD .skip) (by kernel_rfl) (ts := [.tmp 2]) (by kernel_rfl) Tryz.ntmps78 (sq := fun _ => true) (by kernel_rfl) ?_
  intro args ins pk hpre0 hpk
  obtain ⟨rfl, hpre0⟩ := hpre0
  obtain ⟨n, rfl, hpre, hdec⟩ := famPre_ex hpre0
  clear hpre0 hdec
  try simp only [spRl_pre] at hpre
  replace hpk : pk + 0 ≤ pickLimit := hpk
  refine ⟨nle rfl, ?_⟩
  simp (maxSteps := 1000000) only [go_sem, Tryz.f78, spRl_q, spRl_A, spRl_pre, spRl_post]
  repeat' first | apply And.intro | intro _ | omega | assumption | with_reducible rfl
  all_goals (first | ((simp only [isRl]; grind); done))
theorem sat_impl_isRule : Sat Tryz.prog rt0 78 (wkIn spRl) := sat_in (sat_out sat_impl_isRule_0)
def spIns_A : Int × Int → List AV
  | (n, rl) => [I n, I rl]
def spIns_pre : Int × Int → Prop
  | (n, rl) => -1000000 ≤ n ∧ n ≤ 1000000
def spIns_post : Int × Int → AV → List Box → Prop
  | (n, rl), r, bs => r = B (insN n rl) ∧ bs = []
def spIns : VE.Spec := famSpec spIns_A d_i_i spIns_pre spIns_post 0 true
theorem spIns_q : SpQ spIns true [] false 0 (fun a i => i = [] ∧ famPre d_i_i spIns_A spIns_pre a) (fun a i r b => famPost d_i_i spIns_post a r b) := ⟨rfl, rfl, rfl, rfl, fun _ _ => rfl, fun _ _ _ _ => rfl⟩
def tb127 : Nat → Option VE.Spec := tabOf []
theorem tb127_ok : TabOK Tryz.prog rt0 tb127 := tabOf_nil
set_option maxHeartbeats 4000000 in
theorem sat_impl_inside_0 : Sat Tryz.prog rt0 127 (wkOut spIns) := by
  refine fn_sat hm ttok (tab := tb127) tb127_ok Tryz.func127 (c := Tryz.f127.body.getD .skip) (by kernel_rfl) (ts := [.tmp 4]) (by kernel_rfl) Tryz.ntmps127 (sq := fun _ => true) (by kernel_rfl) ?_
  intro args ins pk hpre0 hpk
  obtain ⟨rfl, hpre0⟩ := hpre0
  obtain ⟨⟨n, rl⟩, rfl, hpre, hdec⟩ := famPre_ex hpre0
  clear hpre0 hdec
  try simp only [spIns_pre] at hpre
  replace hpk : pk + 0 ≤ pickLimit := hpk
  refine ⟨nle rfl, ?_⟩
  simp (maxSteps := 1000000) only [go_sem, Tryz.f127, spIns_q, spIns_A, spIns_pre, spIns_post]
  repeat' first | apply And.intro | intro _ | omega | assumption | with_reducible rfl
  all_goals (first | ((simp only [insN, ← tmod2]; grind); done))
theorem sat_impl_inside : Sat Tryz.prog rt0 127 (wkIn spIns) := sat_in (sat_out sat_impl_inside_0)
def spDist_A : Int → List AV
  | n => [I n]
def spDist_pre : Int → Prop
  | n => -1000000000000 ≤ n ∧ n ≤ 1000000000000
def spDist_post : Int → AV → List Box → Prop
  | n, r, bs => r = I (if n < 0 then -n else n) ∧ bs = []
def spDist : VE.Spec := famSpec spDist_A d_i spDist_pre spDist_post 0 true
theorem spDist_q : SpQ spDist true [] false 0 (fun a i => i = [] ∧ famPre d_i spDist_A spDist_pre a) (fun a i r b => famPost d_i spDist_post a r b) := ⟨rfl, rfl, rfl, rfl, fun _ _ => rfl, fun _ _ _ _ => rfl⟩
def tb163 : Nat → Option VE.Spec := tabOf []
theorem tb163_ok : TabOK Tryz.prog rt0 tb163 := tabOf_nil
set_option maxHeartbeats 4000000 in
theorem sat_spec_distance_0 : Sat Tryz.prog rt0 163 (wkOut spDist) := by
  refine fn_sat hm ttok (tab := tb163) tb163_ok Tryz.func163 (c := Tryz.f163.body.getD .skip) (by kernel_rfl) (ts := [.tmp 2]) (by kernel_rfl) Tryz.ntmps163 (sq := fun _ => true) (by kernel_rfl) ?_
  intro args ins pk hpre0 hpk
  obtain ⟨rfl, hpre0⟩ := hpre0
  obtain ⟨n, rfl, hpre, hdec⟩ := famPre_ex hpre0
  clear hpre0 hdec
  try simp only [spDist_pre] at hpre
  replace hpk : pk + 0 ≤ pickLimit := hpk
  refine ⟨nle rfl, ?_⟩
  simp (maxSteps := 1000000) only [go_sem, Tryz.f163, spDist_q, spDist_A, spDist_pre, spDist_post]
  repeat' first | apply And.intro | intro _ | omega | assumption | with_reducible rfl
  all_goals (first | (grind; done))
theorem sat_spec_distance : Sat Tryz.prog rt0 163 (wkIn spDist) := sat_in (sat_out sat_spec_distance_0)
def tb168 : Nat → Option VE.Spec := tabOf []
theorem tb168_ok : TabOK Tryz.prog rt0 tb168 := tabOf_nil
set_option maxHeartbeats 4000000 in
theorem sat_impl_size_0 : Sat Tryz.prog rt0 168 (wkOut spDist) := by
  refine fn_sat hm ttok (tab := tb168) tb168_ok Tryz.func168 (c := Tryz.f168.body.getD .skip) (by kernel_rfl) (ts := [.tmp 2]) (by kernel_rfl) Tryz.ntmps168 (sq := fun _ => true) (by kernel_rfl) ?_
  intro args ins pk hpre0 hpk
  obtain ⟨rfl, hpre0⟩ := hpre0
  obtain ⟨n, rfl, hpre, hdec⟩ := famPre_ex hpre0
  clear hpre0 hdec
  try simp only [spDist_pre] at hpre
  replace hpk : pk + 0 ≤ pickLimit := hpk
  refine ⟨nle rfl, ?_⟩
  simp (maxSteps := 1000000) only [go_sem, Tryz.f168, spDist_q, spDist_A, spDist_pre, spDist_post]
  repeat' first | apply And.intro | intro _ | omega | assumption | with_reducible rfl
  all_goals (first | (grind; done))
theorem sat_impl_size : Sat Tryz.prog rt0 168 (wkIn spDist) := sat_in (sat_out sat_impl_size_0)
def tb134 : Nat → Option VE.Spec := tabOf [(163, wkIn spDist)]
theorem tb134_163 : tb134 163 = some (wkIn spDist) := rfl
theorem tb134_ok : TabOK Tryz.prog rt0 tb134 := (tabOf_cons (by kernel_rfl) sat_spec_distance tabOf_nil)
set_option maxHeartbeats 4000000 in
theorem sat_spec_inside_0 : Sat Tryz.prog rt0 134 (wkOut spIns) := by
  refine fn_sat hm ttok (tab := tb134) tb134_ok Tryz.func134 (c := Tryz.f134.body.getD .skip) (by kernel_rfl) (ts := [.tmp 4]) (by kernel_rfl) Tryz.ntmps134 (sq := fun _ => true) (by kernel_rfl) ?_
  intro args ins pk hpre0 hpk
  obtain ⟨rfl, hpre0⟩ := hpre0
  obtain ⟨⟨n, rl⟩, rfl, hpre, hdec⟩ := famPre_ex hpre0
  clear hpre0 hdec
  try simp only [spIns_pre] at hpre
  replace hpk : pk + 0 ≤ pickLimit := hpk
  refine ⟨nle rfl, ?_⟩
  simp (maxSteps := 1000000) only [go_sem, Tryz.f134, tb134_163, spIns_q, spIns_A, spIns_pre, spIns_post, spDist_q, spDist_A, spDist_pre, spDist_post]
  repeat' first | apply And.intro | intro _ | omega | assumption | with_reducible rfl
  all_goals (first | ((simp only [insN]; have := Int.tmod_eq_emod_of_nonneg (a := if n < 0 then -n else n) (b := 2) (by grind); grind); done) | (grind; done))
theorem sat_spec_inside : Sat Tryz.prog rt0 134 (wkIn spIns) := sat_in (sat_out sat_spec_inside_0)
def spToInt_A : Bool → List AV
  | b => [B b]
def spToInt_pre : Bool → Prop
  | b => True
def spToInt_post : Bool → AV → List Box → Prop
  | b, r, bs => r = I (if b then 1 else 0) ∧ bs = []
def spToInt : VE.Spec := famSpec spToInt_A d_b spToInt_pre spToInt_post 0 true
theorem spToInt_q : SpQ spToInt true [] false 0 (fun a i => i = [] ∧ famPre d_b spToInt_A spToInt_pre a) (fun a i r b => famPost d_b spToInt_post a r b) := ⟨rfl, rfl, rfl, rfl, fun _ _ => rfl, fun _ _ _ _ => rfl⟩
def tb133 : Nat → Option VE.Spec := tabOf []
theorem tb133_ok : TabOK Tryz.prog rt0 tb133 := tabOf_nil
set_option maxHeartbeats 4000000 in
theorem sat_spec_toInt_0 : Sat Tryz.prog rt0 133 (wkOut spToInt) := by
  refine fn_sat hm ttok (tab := tb133) tb133_ok Tryz.func133 (c := Tryz.f133.body.getD .skip) (by kernel_rfl) (ts := [.tmp 2]) (by kernel_rfl) Tryz.ntmps133 (sq := fun _ => true) (by kernel_rfl) ?_
  intro args ins pk hpre0 hpk
  obtain ⟨rfl, hpre0⟩ := hpre0
  obtain ⟨b, rfl, hpre, hdec⟩ := famPre_ex hpre0
  clear hpre0 hdec
  try simp only [spToInt_pre] at hpre
  replace hpk : pk + 0 ≤ pickLimit := hpk
  refine ⟨nle rfl, ?_⟩
  simp (maxSteps := 1000000) only [go_sem, Tryz.f133, spToInt_q, spToInt_A, spToInt_pre, spToInt_post]
  repeat' first | apply And.intro | intro _ | omega | assumption | with_reducible rfl
  all_goals (first | (simp_all; done))
theorem sat_spec_toInt : Sat Tryz.prog rt0 133 (wkIn spToInt) := sat_in (sat_out sat_spec_toInt_0)
def spSamp_A : Int → List AV
  | n => [I n]
def spSamp_pre : Int → Prop
  | n => -1000000 ≤ n ∧ n ≤ 1000000
def spSamp_post : Int → AV → List Box → Prop
  | n, r, bs => r = I (2 + 4 * n) ∧ bs = []
def spSamp : VE.Spec := famSpec spSamp_A d_i spSamp_pre spSamp_post 0 true
theorem spSamp_q : SpQ spSamp true [] false 0 (fun a i => i = [] ∧ famPre d_i spSamp_A spSamp_pre a) (fun a i r b => famPost d_i spSamp_post a r b) := ⟨rfl, rfl, rfl, rfl, fun _ _ => rfl, fun _ _ _ _ => rfl⟩
def tb129 : Nat → Option VE.Spec := tabOf []
theorem tb129_ok : TabOK Tryz.prog rt0 tb129 := tabOf_nil
set_option maxHeartbeats 4000000 in
theorem sat_impl_sampleAt_0 : Sat Tryz.prog rt0 129 (wkOut spSamp) := by
  refine fn_sat hm ttok (tab := tb129) tb129_ok Tryz.func129 (c := Tryz.f129.body.getD .skip) (by kernel_rfl) (ts := [.tmp 2]) (by kernel_rfl) Tryz.ntmps129 (sq := fun _ => true) (by kernel_rfl) ?_
  intro args ins pk hpre0 hpk
  obtain ⟨rfl, hpre0⟩ := hpre0
  obtain ⟨n, rfl, hpre, hdec⟩ := famPre_ex hpre0
  clear hpre0 hdec
  try simp only [spSamp_pre] at hpre
  replace hpk : pk + 0 ≤ pickLimit := hpk
  refine ⟨nle rfl, ?_⟩
  simp (maxSteps := 1000000) only [go_sem, Tryz.f129, spSamp_q, spSamp_A, spSamp_pre, spSamp_post]
  repeat' first | apply And.intro | intro _ | omega | assumption | with_reducible rfl
theorem sat_impl_sampleAt : Sat Tryz.prog rt0 129 (wkIn spSamp) := sat_in (sat_out sat_impl_sampleAt_0)
def spSzd_A : Int × Int → List AV
  | (w, h) => [I w, I h]
def spSzd_pre : Int × Int → Prop
  | (w, h) => True
def spSzd_post : Int × Int → AV → List Box → Prop
  | (w, h), r, bs => r = B (szd w h) ∧ bs = []
def spSzd : VE.Spec := famSpec spSzd_A d_i_i spSzd_pre spSzd_post 0 true
theorem spSzd_q : SpQ spSzd true [] false 0 (fun a i => i = [] ∧ famPre d_i_i spSzd_A spSzd_pre a) (fun a i r b => famPost d_i_i spSzd_post a r b) := ⟨rfl, rfl, rfl, rfl, fun _ _ => rfl, fun _ _ _ _ => rfl⟩
def tb44 : Nat → Option VE.Spec := tabOf [(48, wkIn spIn)]
theorem tb44_48 : tb44 48 = some (wkIn spIn) := rfl
theorem tb44_ok : TabOK Tryz.prog rt0 tb44 := (tabOf_cons (by kernel_rfl) sat_impl_in tabOf_nil)
set_option maxHeartbeats 4000000 in
theorem sat_impl_sized_0 : Sat Tryz.prog rt0 44 (wkOut spSzd) := by
  refine fn_sat hm ttok (tab := tb44) tb44_ok Tryz.func44 (c := Tryz.f44.body.getD .skip) (by kernel_rfl) (ts := [.tmp 4]) (by kernel_rfl) Tryz.ntmps44 (sq := fun _ => true) (by kernel_rfl) ?_
  intro args ins pk hpre0 hpk
  obtain ⟨rfl, hpre0⟩ := hpre0
  obtain ⟨⟨w, h⟩, rfl, hpre, hdec⟩ := famPre_ex hpre0
  clear hpre0 hdec
  try simp only [spSzd_pre] at hpre
  replace hpk : pk + 0 ≤ pickLimit := hpk
  refine ⟨nle rfl, ?_⟩
  simp (maxSteps := 1000000) only [go_sem, Tryz.f44, tb44_48, spSzd_q, spSzd_A, spSzd_pre, spSzd_post, spIn_q, spIn_A, spIn_pre, spIn_post, szd]
  repeat' first | apply And.intro | intro _ | omega | assumption | with_reducible rfl
  all_goals (first | ((simp only [decide_eq_decide, true_eq_decide_iff, false_eq_decide_iff, Bool.not_eq_eq_eq_not, Bool.not_true, Bool.not_false]; omega); done) | (grind; done))
theorem sat_impl_sized : Sat Tryz.prog rt0 44 (wkIn spSzd) := sat_in (sat_out sat_impl_sized_0)
def tb55 : Nat → Option VE.Spec := tabOf [(35, wkIn spIn)]
theorem tb55_35 : tb55 35 = some (wkIn spIn) := rfl
theorem tb55_ok : TabOK Tryz.prog rt0 tb55 := (tabOf_cons (by kernel_rfl) sat_spec_inRange tabOf_nil)
set_option maxHeartbeats 4000000 in
theorem sat_spec_validSize_0 : Sat Tryz.prog rt0 55 (wkOut spSzd) := by
  refine fn_sat hm ttok (tab := tb55) tb55_ok Tryz.func55 (c := Tryz.f55.body.getD .skip) (by kernel_rfl) (ts := [.tmp 4]) (by kernel_rfl) Tryz.ntmps55 (sq := fun _ => true) (by kernel_rfl) ?_
  intro args ins pk hpre0 hpk
  obtain ⟨rfl, hpre0⟩ := hpre0
  obtain ⟨⟨w, h⟩, rfl, hpre, hdec⟩ := famPre_ex hpre0
  clear hpre0 hdec
  try simp only [spSzd_pre] at hpre
  replace hpk : pk + 0 ≤ pickLimit := hpk
  refine ⟨nle rfl, ?_⟩
  simp (maxSteps := 1000000) only [go_sem, Tryz.f55, tb55_35, spSzd_q, spSzd_A, spSzd_pre, spSzd_post, spIn_q, spIn_A, spIn_pre, spIn_post, szd]
  repeat' first | apply And.intro | intro _ | omega | assumption | with_reducible rfl
  all_goals (first | ((simp only [decide_eq_decide, true_eq_decide_iff, false_eq_decide_iff, Bool.not_eq_eq_eq_not, Bool.not_true, Bool.not_false]; omega); done) | (grind; done))
theorem sat_spec_validSize : Sat Tryz.prog rt0 55 (wkIn spSzd) := sat_in (sat_out sat_spec_validSize_0)
def spAcr_A : Int → List AV
  | w => [I w]
def spAcr_pre : Int → Prop
  | w => 0 ≤ w ∧ w ≤ 1000000
def spAcr_post : Int → AV → List Box → Prop
  | w, r, bs => r = I (acr w) ∧ bs = []
def spAcr : VE.Spec := famSpec spAcr_A d_i spAcr_pre spAcr_post 0 true
theorem spAcr_q : SpQ spAcr true [] false 0 (fun a i => i = [] ∧ famPre d_i spAcr_A spAcr_pre a) (fun a i r b => famPost d_i spAcr_post a r b) := ⟨rfl, rfl, rfl, rfl, fun _ _ => rfl, fun _ _ _ _ => rfl⟩
def tb51 : Nat → Option VE.Spec := tabOf []
theorem tb51_ok : TabOK Tryz.prog rt0 tb51 := tabOf_nil
set_option maxHeartbeats 4000000 in
theorem sat_impl_across_0 : Sat Tryz.prog rt0 51 (wkOut spAcr) := by
  refine fn_sat hm ttok (tab := tb51) tb51_ok Tryz.func51 (c := Tryz.f51.body.getD .skip) (by kernel_rfl) (ts := [.tmp 2]) (by kernel_rfl) Tryz.ntmps51 (sq := fun _ => true) (by kernel_rfl) ?_
  intro args ins pk hpre0 hpk
  obtain ⟨rfl, hpre0⟩ := hpre0
  obtain ⟨w, rfl, hpre, hdec⟩ := famPre_ex hpre0
  clear hpre0 hdec
  try simp only [spAcr_pre] at hpre
  replace hpk : pk + 0 ≤ pickLimit := hpk
  refine ⟨nle rfl, ?_⟩
  simp (maxSteps := 1000000) only [go_sem, Tryz.f51, spAcr_q, spAcr_A, spAcr_pre, spAcr_post]
  repeat' first | apply And.intro | intro _ | omega | assumption | with_reducible rfl
  all_goals (first | ((simp only [acr]; rw [tdiv_nn (by omega)]; grind); done) | ((rw [tdiv_nn (by omega)]; omega); done))
theorem sat_impl_across : Sat Tryz.prog rt0 51 (wkIn spAcr) := sat_in (sat_out sat_impl_across_0)
def spTc_A : Int × Int → List AV
  | (w, h) => [I w, I h]
def spTc_pre : Int × Int → Prop
  | (w, h) => True
def spTc_post : Int × Int → AV → List Box → Prop
  | (w, h), r, bs => r = I (tcnt w h) ∧ bs = []
def spTc : VE.Spec := famSpec spTc_A d_i_i spTc_pre spTc_post 0 true
theorem spTc_q : SpQ spTc true [] false 0 (fun a i => i = [] ∧ famPre d_i_i spTc_A spTc_pre a) (fun a i r b => famPost d_i_i spTc_post a r b) := ⟨rfl, rfl, rfl, rfl, fun _ _ => rfl, fun _ _ _ _ => rfl⟩
def tb20 : Nat → Option VE.Spec := tabOf [(44, wkIn spSzd), (51, wkIn spAcr)]
theorem tb20_44 : tb20 44 = some (wkIn spSzd) := rfl
theorem tb20_51 : tb20 51 = some (wkIn spAcr) := rfl
theorem tb20_ok : TabOK Tryz.prog rt0 tb20 := (tabOf_cons (by kernel_rfl) sat_impl_sized (tabOf_cons (by kernel_rfl) sat_impl_across tabOf_nil))
set_option maxHeartbeats 4000000 in
theorem sat_impl_TileCount_0 : Sat Tryz.prog rt0 20 (wkOut spTc) := by
  refine fn_sat hm ttok (tab := tb20) tb20_ok Tryz.func20 (c := Tryz.f20.body.getD .skip) (by kernel_rfl) (ts := [.tmp 4]) (by kernel_rfl) Tryz.ntmps20 (sq := fun _ => true) (by kernel_rfl) ?_
  intro args ins pk hpre0 hpk
  obtain ⟨rfl, hpre0⟩ := hpre0
  obtain ⟨⟨w, h⟩, rfl, hpre, hdec⟩ := famPre_ex hpre0
  clear hpre0 hdec
  try simp only [spTc_pre] at hpre
  replace hpk : pk + 0 ≤ pickLimit := hpk
  refine ⟨nle rfl, ?_⟩
  simp (maxSteps := 1000000) only [go_sem, Tryz.f20, tb20_44, tb20_51, spTc_q, spTc_A, spTc_pre, spTc_post, spSzd_q, spSzd_A, spSzd_pre, spSzd_post, spAcr_q, spAcr_A, spAcr_pre, spAcr_post]
  repeat' first | apply And.intro | intro _ | omega | assumption | with_reducible rfl
  all_goals (first | ((simp only [szd] at *; grind); done) | ((have := acr_mul ‹_›; omega); done) | (simp_all [tcnt]; done))
theorem sat_impl_TileCount : Sat Tryz.prog rt0 20 (wkIn spTc) := sat_in (sat_out sat_impl_TileCount_0)
def spFloor_A : Int × Int → List AV
  | (a, b) => [I a, I b]
def spFloor_pre : Int × Int → Prop
  | (a, b) => 1 ≤ b ∧ b ≤ 1000000000000000 ∧ -1000000000000000 ≤ a ∧ a ≤ 1000000000000000
def spFloor_post : Int × Int → AV → List Box → Prop
  | (a, b), r, bs => r = I (a / b) ∧ bs = []
def spFloor : VE.Spec := famSpec spFloor_A d_i_i spFloor_pre spFloor_post 0 true
theorem spFloor_q : SpQ spFloor true [] false 0 (fun a i => i = [] ∧ famPre d_i_i spFloor_A spFloor_pre a) (fun a i r b => famPost d_i_i spFloor_post a r b) := ⟨rfl, rfl, rfl, rfl, fun _ _ => rfl, fun _ _ _ _ => rfl⟩
def tb141 : Nat → Option VE.Spec := tabOf []
theorem tb141_ok : TabOK Tryz.prog rt0 tb141 := tabOf_nil
set_option maxHeartbeats 4000000 in
theorem sat_impl_floor_0 : Sat Tryz.prog rt0 141 (wkOut spFloor) := by
  refine fn_sat hm ttok (tab := tb141) tb141_ok Tryz.func141 (c := Tryz.f141.body.getD .skip) (by kernel_rfl) (ts := [.tmp 4]) (by kernel_rfl) Tryz.ntmps141 (sq := fun _ => true) (by kernel_rfl) ?_
  intro args ins pk hpre0 hpk
  obtain ⟨rfl, hpre0⟩ := hpre0
  obtain ⟨⟨a, b⟩, rfl, hpre, hdec⟩ := famPre_ex hpre0
  clear hpre0 hdec
  try simp only [spFloor_pre] at hpre
  replace hpk : pk + 0 ≤ pickLimit := hpk
  refine ⟨nle rfl, ?_⟩
  simp (maxSteps := 1000000) only [go_sem, Tryz.f141, spFloor_q, spFloor_A, spFloor_pre, spFloor_post]
  have e := fdiv_eq a b
  rw [if_pos (by omega)] at e
  have h1 : (a.tdiv b).natAbs ≤ a.natAbs := by rw [Int.natAbs_tdiv]; exact Nat.div_le_self _ _
  repeat' first | apply And.intro | intro _ | omega | assumption | with_reducible rfl
  all_goals (first | ((rw [if_pos (by omega)] at e; omega); done) | ((rw [if_neg (by omega)] at e; omega); done))
theorem sat_impl_floor : Sat Tryz.prog rt0 141 (wkIn spFloor) := sat_in (sat_out sat_impl_floor_0)
def tb145 : Nat → Option VE.Spec := tabOf []
theorem tb145_ok : TabOK Tryz.prog rt0 tb145 := tabOf_nil
set_option maxHeartbeats 4000000 in
theorem sat_spec_floorDiv_0 : Sat Tryz.prog rt0 145 (wkOut spFloor) := by
  refine fn_sat hm ttok (tab := tb145) tb145_ok Tryz.func145 (c := Tryz.f145.body.getD .skip) (by kernel_rfl) (ts := [.tmp 4]) (by kernel_rfl) Tryz.ntmps145 (sq := fun _ => true) (by kernel_rfl) ?_
  intro args ins pk hpre0 hpk
  obtain ⟨rfl, hpre0⟩ := hpre0
  obtain ⟨⟨a, b⟩, rfl, hpre, hdec⟩ := famPre_ex hpre0
  clear hpre0 hdec
  try simp only [spFloor_pre] at hpre
  replace hpk : pk + 0 ≤ pickLimit := hpk
  refine ⟨nle rfl, ?_⟩
  simp (maxSteps := 1000000) only [go_sem, Tryz.f145, spFloor_q, spFloor_A, spFloor_pre, spFloor_post]
  have e := fdiv_eq a b
  rw [if_pos (by omega)] at e
  have h1 : (a.tdiv b).natAbs ≤ a.natAbs := by rw [Int.natAbs_tdiv]; exact Nat.div_le_self _ _
  repeat' first | apply And.intro | intro _ | omega | assumption | with_reducible rfl
  all_goals (first | ((rw [if_pos (by omega)] at e; omega); done) | ((rw [if_neg (by omega)] at e; omega); done))
theorem sat_spec_floorDiv : Sat Tryz.prog rt0 145 (wkIn spFloor) := sat_in (sat_out sat_spec_floorDiv_0)
structure okP (p : Pt) : Prop where
  x0 : -3000 ≤ p.x
  x1 : p.x ≤ 3000
  y0 : -3000 ≤ p.y
  y1 : p.y ≤ 3000
def mid (a b : Pt) : Pt := ⟨(a.x + b.x) / 2, (a.y + b.y) / 2⟩
theorem mul_bd {a b : Int} {m n : Int} (h1 : -m ≤ a) (h2 : a ≤ m) (h3 : -n ≤ b) (h4 : b ≤ n) : -(m * n) ≤ a * b ∧ a * b ≤ m * n := by
  have hm : 0 ≤ m := by omega
  have hn : 0 ≤ n := by omega
  have q : (a * b).natAbs ≤ (m * n).natAbs := by
    rw [Int.natAbs_mul, Int.natAbs_mul]
    exact Nat.mul_le_mul (by omega) (by omega)
  have : 0 ≤ m * n := Int.mul_nonneg hm hn
  omega
def stepE (e : Edge) (y : Int) : Int := if e.p.y ≤ y ∧ y < e.q.y then 1 else if e.q.y ≤ y ∧ y < e.p.y then -1 else 0
def leftE (e : Edge) (x y : Int) : Bool := decide ((if e.q.y - e.p.y < 0 then -((e.q.x - e.p.x) * (y - e.p.y) - (x - e.p.x) * (e.q.y - e.p.y)) else (e.q.x - e.p.x) * (y - e.p.y) - (x - e.p.x) * (e.q.y - e.p.y)) ≤ 0)
def con (e : Edge) (x y : Int) : Int := if leftE e x y = true then stepE e y else 0
def sgn (n : Int) : Int := if 0 < n then 1 else if n < 0 then -1 else 0
def okE (e : Edge) : Prop := okP e.p ∧ okP e.q
def spStep_A : Edge × Int → List AV
  | (e, y) => [.agg (edC e), I y]
def spStep_pre : Edge × Int → Prop
  | (e, y) => True
def spStep_post : Edge × Int → AV → List Box → Prop
  | (e, y), r, bs => r = I (stepE e y) ∧ bs = []
def spStep : VE.Spec := famSpec spStep_A d_ed_i spStep_pre spStep_post 0 true
theorem spStep_q : SpQ spStep true [] false 0 (fun a i => i = [] ∧ famPre d_ed_i spStep_A spStep_pre a) (fun a i r b => famPost d_ed_i spStep_post a r b) := ⟨rfl, rfl, rfl, rfl, fun _ _ => rfl, fun _ _ _ _ => rfl⟩
def tb158 : Nat → Option VE.Spec := tabOf []
theorem tb158_ok : TabOK Tryz.prog rt0 tb158 := tabOf_nil
set_option maxHeartbeats 4000000 in
theorem sat_impl_Edge_step_0 : Sat Tryz.prog rt0 158 (wkOut spStep) := by
  refine fn_sat hm ttok (tab := tb158) tb158_ok Tryz.func158 (c := Tryz.f158.body.getD .skip) (by kernel_rfl) (ts := [.tmp 4]) (by kernel_rfl) Tryz.ntmps158 (sq := fun _ => true) (by kernel_rfl) ?_
  intro args ins pk hpre0 hpk
  obtain ⟨rfl, hpre0⟩ := hpre0
  obtain ⟨⟨e, y⟩, rfl, hpre, hdec⟩ := famPre_ex hpre0
  clear hpre0 hdec
  try simp only [spStep_pre] at hpre
  replace hpk : pk + 0 ≤ pickLimit := hpk
  refine ⟨nle rfl, ?_⟩
  simp (maxSteps := 1000000) only [go_sem, Tryz.f158, spStep_q, spStep_A, spStep_pre, spStep_post]
  repeat' first | apply And.intro | intro _ | omega | assumption | with_reducible rfl
  all_goals (first | (grind [stepE]; done))
theorem sat_impl_Edge_step : Sat Tryz.prog rt0 158 (wkIn spStep) := sat_in (sat_out sat_impl_Edge_step_0)
def spLeft_A : Edge × Int × Int → List AV
  | (e, x, y) => [.agg (edC e), I x, I y]
def spLeft_pre : Edge × Int × Int → Prop
  | (e, x, y) => okE e ∧ (-3000 ≤ x ∧ x ≤ 3000) ∧ -3000 ≤ y ∧ y ≤ 3000
def spLeft_post : Edge × Int × Int → AV → List Box → Prop
  | (e, x, y), r, bs => r = B (leftE e x y) ∧ bs = []
def spLeft : VE.Spec := famSpec spLeft_A d_ed_i_i spLeft_pre spLeft_post 0 true
theorem spLeft_q : SpQ spLeft true [] false 0 (fun a i => i = [] ∧ famPre d_ed_i_i spLeft_A spLeft_pre a) (fun a i r b => famPost d_ed_i_i spLeft_post a r b) := ⟨rfl, rfl, rfl, rfl, fun _ _ => rfl, fun _ _ _ _ => rfl⟩
def tb159 : Nat → Option VE.Spec := tabOf []
theorem tb159_ok : TabOK Tryz.prog rt0 tb159 := tabOf_nil
set_option maxHeartbeats 4000000 in
theorem sat_impl_Edge_left_0 : Sat Tryz.prog rt0 159 (wkOut spLeft) := by
  refine fn_sat hm ttok (tab := tb159) tb159_ok Tryz.func159 (c := Tryz.f159.body.getD .skip) (by kernel_rfl) (ts := [.tmp 6]) (by kernel_rfl) Tryz.ntmps159 (sq := fun _ => true) (by kernel_rfl) ?_
  intro args ins pk hpre0 hpk
  obtain ⟨rfl, hpre0⟩ := hpre0
  obtain ⟨⟨e, x, y⟩, rfl, hpre, hdec⟩ := famPre_ex hpre0
  clear hpre0 hdec
  try simp only [spLeft_pre] at hpre
  replace hpk : pk + 0 ≤ pickLimit := hpk
  refine ⟨nle rfl, ?_⟩
  simp (maxSteps := 1000000) only [go_sem, Tryz.f159, spLeft_q, spLeft_A, spLeft_pre, spLeft_post]
  obtain ⟨⟨⟨a1, a2, a3, a4⟩, ⟨b1, b2, b3, b4⟩⟩, ⟨c1, c2⟩, c3, c4⟩ := hpre
  have m1 := mul_bd (a := e.q.x - e.p.x) (b := y - e.p.y) (m := 6000) (n := 6000) (by omega) (by omega) (by omega) (by omega)
  have m2 := mul_bd (a := x - e.p.x) (b := e.q.y - e.p.y) (m := 6000) (n := 6000) (by omega) (by omega) (by omega) (by omega)
  simp only [leftE]
  generalize (e.q.x - e.p.x) * (y - e.p.y) = u at *
  generalize (x - e.p.x) * (e.q.y - e.p.y) = v at *
  repeat' first | apply And.intro | intro _ | omega | assumption | with_reducible rfl
  all_goals (first | ((simp only [decide_eq_decide]; grind); done) | (grind; done))
theorem sat_impl_Edge_left : Sat Tryz.prog rt0 159 (wkIn spLeft) := sat_in (sat_out sat_impl_Edge_left_0)
def spSide_A : Pt × Pt × Int × Int → List AV
  | (a, b, x, y) => [.agg (ptC a), .agg (ptC b), I x, I y]
def spSide_pre : Pt × Pt × Int × Int → Prop
  | (a, b, x, y) => okP a ∧ okP b ∧ (-3000 ≤ x ∧ x ≤ 3000) ∧ -3000 ≤ y ∧ y ≤ 3000
def spSide_post : Pt × Pt × Int × Int → AV → List Box → Prop
  | (a, b, x, y), r, bs => r = I (sgn ((x - a.x) * (b.y - a.y) - (y - a.y) * (b.x - a.x))) ∧ bs = []
def spSide : VE.Spec := famSpec spSide_A d_pt_pt_i_i spSide_pre spSide_post 0 true
theorem spSide_q : SpQ spSide true [] false 0 (fun a i => i = [] ∧ famPre d_pt_pt_i_i spSide_A spSide_pre a) (fun a i r b => famPost d_pt_pt_i_i spSide_post a r b) := ⟨rfl, rfl, rfl, rfl, fun _ _ => rfl, fun _ _ _ _ => rfl⟩
def tb171 : Nat → Option VE.Spec := tabOf [(133, wkIn spToInt)]
theorem tb171_133 : tb171 133 = some (wkIn spToInt) := rfl
theorem tb171_ok : TabOK Tryz.prog rt0 tb171 := (tabOf_cons (by kernel_rfl) sat_spec_toInt tabOf_nil)
set_option maxHeartbeats 4000000 in
theorem sat_spec_sideOf_0 : Sat Tryz.prog rt0 171 (wkOut spSide) := by
  refine fn_sat hm ttok (tab := tb171) tb171_ok Tryz.func171 (c := Tryz.f171.body.getD .skip) (by kernel_rfl) (ts := [.tmp 8]) (by kernel_rfl) Tryz.ntmps171 (sq := fun _ => true) (by kernel_rfl) ?_
  intro args ins pk hpre0 hpk
  obtain ⟨rfl, hpre0⟩ := hpre0
  obtain ⟨⟨a, b, x, y⟩, rfl, hpre, hdec⟩ := famPre_ex hpre0
  clear hpre0 hdec
  try simp only [spSide_pre] at hpre
  replace hpk : pk + 0 ≤ pickLimit := hpk
  refine ⟨nle rfl, ?_⟩
  simp (maxSteps := 1000000) only [go_sem, Tryz.f171, tb171_133, spSide_q, spSide_A, spSide_pre, spSide_post, spToInt_q, spToInt_A, spToInt_pre, spToInt_post]
  obtain ⟨⟨a1, a2, a3, a4⟩, ⟨b1, b2, b3, b4⟩, ⟨c1, c2⟩, c3, c4⟩ := hpre
  have m1 := mul_bd (a := x - a.x) (b := b.y - a.y) (m := 6000) (n := 6000) (by omega) (by omega) (by omega) (by omega)
  have m2 := mul_bd (a := y - a.y) (b := b.x - a.x) (m := 6000) (n := 6000) (by omega) (by omega) (by omega) (by omega)
  generalize (x - a.x) * (b.y - a.y) = u at *
  generalize (y - a.y) * (b.x - a.x) = v at *
  repeat' first | apply And.intro | intro _ | omega | assumption | with_reducible rfl
  all_goals (first | (grind [sgn]; done))
theorem sat_spec_sideOf : Sat Tryz.prog rt0 171 (wkIn spSide) := sat_in (sat_out sat_spec_sideOf_0)
theorem con_side (e : Edge) (x y : Int) : con e x y = if e.p.y ≤ y ∧ y < e.q.y ∧ 0 ≤ sgn ((x - e.p.x) * (e.q.y - e.p.y) - (y - e.p.y) * (e.q.x - e.p.x)) then 1 else if e.q.y ≤ y ∧ y < e.p.y ∧ 0 ≤ sgn ((x - e.q.x) * (e.p.y - e.q.y) - (y - e.q.y) * (e.p.x - e.q.x)) then -1 else 0 := by
  have h1 : (x - e.q.x) * (e.p.y - e.q.y) - (y - e.q.y) * (e.p.x - e.q.x) = -((x - e.p.x) * (e.q.y - e.p.y) - (y - e.p.y) * (e.q.x - e.p.x)) := by grind
  have h2 : (e.q.x - e.p.x) * (y - e.p.y) - (x - e.p.x) * (e.q.y - e.p.y) = -((x - e.p.x) * (e.q.y - e.p.y) - (y - e.p.y) * (e.q.x - e.p.x)) := by grind
  rw [h1]
  simp only [con, leftE, stepE, h2, sgn, decide_eq_true_eq]
  generalize (x - e.p.x) * (e.q.y - e.p.y) - (y - e.p.y) * (e.q.x - e.p.x) = u
  grind
def spStepOf_A : Pt × Pt × Int × Int → List AV
  | (a, b, x, y) => [.agg (ptC a), .agg (ptC b), I x, I y]
def spStepOf_pre : Pt × Pt × Int × Int → Prop
  | (a, b, x, y) => okP a ∧ okP b ∧ (-3000 ≤ x ∧ x ≤ 3000) ∧ -3000 ≤ y ∧ y ≤ 3000
def spStepOf_post : Pt × Pt × Int × Int → AV → List Box → Prop
  | (a, b, x, y), r, bs => r = I (con ⟨a, b⟩ x y) ∧ bs = []
def spStepOf : VE.Spec := famSpec spStepOf_A d_pt_pt_i_i spStepOf_pre spStepOf_post 0 true
theorem spStepOf_q : SpQ spStepOf true [] false 0 (fun a i => i = [] ∧ famPre d_pt_pt_i_i spStepOf_A spStepOf_pre a) (fun a i r b => famPost d_pt_pt_i_i spStepOf_post a r b) := ⟨rfl, rfl, rfl, rfl, fun _ _ => rfl, fun _ _ _ _ => rfl⟩
def tb164 : Nat → Option VE.Spec := tabOf [(171, wkIn spSide)]
theorem tb164_171 : tb164 171 = some (wkIn spSide) := rfl
theorem tb164_ok : TabOK Tryz.prog rt0 tb164 := (tabOf_cons (by kernel_rfl) sat_spec_sideOf tabOf_nil)
set_option maxHeartbeats 4000000 in
theorem sat_spec_stepOf_0 : Sat Tryz.prog rt0 164 (wkOut spStepOf) := by
  refine fn_sat hm ttok (tab := tb164) tb164_ok Tryz.func164 (c := Tryz.f164.body.getD .skip) (by kernel_rfl) (ts := [.tmp 8]) (by kernel_rfl) Tryz.ntmps164 (sq := fun _ => true) (by kernel_rfl) ?_
  intro args ins pk hpre0 hpk
  obtain ⟨rfl, hpre0⟩ := hpre0
  obtain ⟨⟨a, b, x, y⟩, rfl, hpre, hdec⟩ := famPre_ex hpre0
  clear hpre0 hdec
  try simp only [spStepOf_pre] at hpre
  replace hpk : pk + 0 ≤ pickLimit := hpk
  refine ⟨nle rfl, ?_⟩
  simp (maxSteps := 1000000) only [go_sem, Tryz.f164, tb164_171, spStepOf_q, spStepOf_A, spStepOf_pre, spStepOf_post, spSide_q, spSide_A, spSide_pre, spSide_post]
  rw [con_side]
  obtain ⟨ha, hb, ⟨c1, c2⟩, c3, c4⟩ := hpre
  repeat' first | apply And.intro | intro _ | omega | assumption | with_reducible rfl
  all_goals (first | (grind; done))
theorem sat_spec_stepOf : Sat Tryz.prog rt0 164 (wkIn spStepOf) := sat_in (sat_out sat_spec_stepOf_0)
section
def spMid_A : Pt × Pt → List AV
  | (a, b) => [.agg (ptC a), .agg (ptC b)]
def spMid_pre : Pt × Pt → Prop
  | (a, b) => okP a ∧ okP b
def spMid_post : Pt × Pt → AV → List Box → Prop
  | (a, b), r, bs => r = .agg (ptC (mid a b)) ∧ bs = []
def spMid : VE.Spec := famSpec spMid_A d_pt_pt spMid_pre spMid_post 0 true
theorem spMid_q : SpQ spMid true [] false 0 (fun a i => i = [] ∧ famPre d_pt_pt spMid_A spMid_pre a) (fun a i r b => famPost d_pt_pt spMid_post a r b) := ⟨rfl, rfl, rfl, rfl, fun _ _ => rfl, fun _ _ _ _ => rfl⟩
def tb166 : Nat → Option VE.Spec := tabOf [(145, wkIn spFloor)]
theorem tb166_145 : tb166 145 = some (wkIn spFloor) := rfl
theorem tb166_ok : TabOK Tryz.prog rt0 tb166 := (tabOf_cons (by kernel_rfl) sat_spec_floorDiv tabOf_nil)
section
attribute [local go_sem] Tryz.f166 tb166_145 spMid_q spMid_A spMid_pre spMid_post spFloor_q spFloor_A spFloor_pre spFloor_post
set_option maxHeartbeats 4000000 in
theorem sat_spec_middle_0 : Sat Tryz.prog rt0 166 (wkOut spMid) := by
  refine fn_sat hm ttok (tab := tb166) tb166_ok Tryz.func166 (c := Tryz.f166.body.getD .skip) (by kernel_rfl) (ts := [.cell 4 40]) (by kernel_rfl) Tryz.ntmps166 (sq := fun id => !(id == 1)) (by kernel_rfl) ?_
  intro args ins pk hpre0 hpk
  obtain ⟨rfl, hpre0⟩ := hpre0
  obtain ⟨⟨a, b⟩, rfl, hpre, hdec⟩ := famPre_ex hpre0
  clear hpre0 hdec
  try simp only [spMid_pre] at hpre
  replace hpk : pk + 0 ≤ pickLimit := hpk
  refine ⟨nle rfl, ?_⟩
  simp (maxSteps := 1000000) only [go_sem, mid]
  obtain ⟨⟨a1, a2, a3, a4⟩, ⟨b1, b2, b3, b4⟩⟩ := hpre
  repeat' first | apply And.intro | intro _ | omega | assumption | with_reducible rfl
  all_goals try (refine drawI (pF 0 (pF 1 (pF 2 (pF 3 (pF 4 (pF 6 (pF 7 (pF 8 (pF 9 (pF 10 (pA 5 (pA 11 (pF 12 (pA 13 pN pN)) pN) pN))))))))))) (by decide +kernel) ?_; simp (maxSteps := 1000000) only [go_sem, planW, stepW, Go.VE.stepT, Go.VE.clearO, mid]; repeat' first | apply And.intro | intro _ | omega | assumption | with_reducible rfl)
  all_goals (first | (grind; done))
end
theorem sat_spec_middle : Sat Tryz.prog rt0 166 (wkIn spMid) := sat_in (sat_out sat_spec_middle_0)
def bnd1 (b : Bx) (p : Pt) : Bx := ⟨min b.l p.x, min b.t p.y, max b.r p.x, max b.b p.y⟩
def bnd (l : List Pt) : Bx := match l with
  | [] => ⟨0, 0, 0, 0⟩
  | p :: _ => l.foldl bnd1 ⟨p.x, p.y, p.x, p.y⟩
theorem bnd_self (b : Bx) (p : Pt) (h1 : b.l ≤ p.x) (h2 : b.t ≤ p.y) (h3 : p.x ≤ b.r) (h4 : p.y ≤ b.b) : bnd1 b p = b := by
  obtain ⟨l, t, r, b⟩ := b
  simp only [bnd1, Bx.mk.injEq] at *
  omega
end
end Go.Proofs.YtcejoknapbhloaaGreat
