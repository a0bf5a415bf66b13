/- Contracts of functions of the program vectorraster, each proved for all states that fit its description. No conditions. -/
import Derived.Test.YthphndhiacikaaaGreatDoorPS
import Derived.Test.YthphndhiacikaaaGreatDoorPQ
import Derived.Test.YthphndhiacikaaaGreatDoorPO
import Derived.Test.YthphndhiacikaaaGreatDoorPG
import Derived.Test.YthphndhiacikaaaGreatDoorPE
set_option linter.unusedSimpArgs false
set_option linter.unusedVariables false
set_option maxRecDepth 100000
namespace Go.Proofs.YthphndhiacikaaaGreatDoor
open Go Go.VE
section
theorem stop_res {l : List Stp} {t : Int} {n : Nat} {q b : Stp} (hv : vStops l = true) (hq : l[n]? = some q) (hb : l[n + 1]? = some b) (h0 : q.w ≤ t) (h : t < b.w) : (if okMx q.c b.c (256 * (t - q.w) / (b.w - q.w)) = true then mixC q.c b.c (256 * (t - q.w) / (b.w - q.w)) else ⟨0, 0, 0, 0⟩) = stopAt l t n := by
  have h1 : okMx q.c b.c (256 * (t - q.w) / (b.w - q.w)) = true := by
    simp only [okMx, (stop_at hv hq).2.1, (stop_at hv hb).2.1, decide_eq_true (part_t h0 h), Bool.and_self]
  rw [if_pos h1, stop_lt hq hb h]
def tb139 : Nat → Option VE.Spec := tabOf [(166, wkIn spMxC), (131, wkIn spFloor)]
theorem tb139_166 : tb139 166 = some (wkIn spMxC) := rfl
theorem tb139_131 : tb139 131 = some (wkIn spFloor) := rfl
theorem tb139_ok : TabOK Tryz.prog rt0 tb139 := (tabOf_cons (by kernel_rfl) sat_impl_MixColor (tabOf_cons (by kernel_rfl) sat_impl_floor tabOf_nil))
section
attribute [local go_sem] Tryz.f139 tb139_166 tb139_131 spStop_q spStop_A spStop_pre spStop_post spMxC_q spMxC_A spMxC_pre spMxC_post spFloor_q spFloor_A spFloor_pre spFloor_post
set_option maxHeartbeats 4000000 in
theorem sat_impl_stopColor_0 : Sat Tryz.prog rt0 139 (wkOut spStop) := by
  refine fn_sat hm ttok (tab := tb139) tb139_ok Tryz.func139 (c := Tryz.f139.body.getD .skip) (by kernel_rfl) (ts := [.cell 4 73]) (by kernel_rfl) Tryz.ntmps139 (sq := fun _ => true) (by kernel_rfl) ?_
  intro args ins pk hpre0 hpk
  obtain ⟨rfl, hpre0⟩ := hpre0
  obtain ⟨⟨l, t⟩, rfl, hpre, hdec⟩ := famPre_ex hpre0
  clear hpre0 hdec
  try simp only [spStop_pre] at hpre
  replace hpk : pk + 0 ≤ pickLimit := hpk
  refine ⟨nle rfl, ?_⟩
  obtain ⟨hv, ht0, ht1⟩ := hpre
  obtain ⟨hv1, hv2, hv3⟩ := vStops_stp hv
  obtain ⟨a, ha⟩ : ∃ a, l[0]? = some a := ⟨_, List.getElem?_eq_getElem (by omega)⟩
  have hfst := stop_first (t := t) ha
  have hav := stop_at hv ha
  simp (maxSteps := 1000000) only [go_sem, List.take_length, ha]
  repeat' first | apply And.intro | intro _ | omega | assumption | with_reducible rfl
  any_goals
    refine loopS (α := Int) false [2, 3, 5, 6, 7, 8, 9, 10, 11, 12, 13, 14, 15, 16, 17, 18, 21, 22, 23, 24, 25, 26, 27, 28, 29, 30, 31, 32, 33, 34, 35, 36, 37, 38, 39, 40, 41, 42, 43, 44, 45, 46, 47, 48, 49, 50] (fun σ => []) (fun σ x => [(21, I x)]) (fun σ x => []) (fun i => 0) (fun σ => gI (σ.get 21)) (fun σ τ => []) (fun i => (0 ≤ i ∧ i ≤ (l.drop 1).length) ∧ stopAt l t i.toNat = stopC l t ∧ ∀ q, l[i.toNat]? = some q → q.w ≤ t) (fun i => ((l.drop 1).length - i).toNat) ⟨by (simp (maxSteps := 1000000) only [go_sem, List.take_length, ha]; (repeat' first | apply And.intro | intro _ | omega | assumption | with_reducible rfl); all_goals (first | (rw [hfst, if_neg ‹_›]))), ?_⟩
    rintro i hinv
    try dsimp only at hinv
    rcases elemAt (l.drop 1) i (by omega) with ⟨hlt, b, hk⟩ | hlt
    all_goals (first | ((have hlt2 := of_eq_true hlt); (rw [List.length_drop] at hlt2); (obtain ⟨q, hq⟩ : ∃ q, l[i.toNat]? = some q := ⟨_, List.getElem?_eq_getElem (by omega)⟩); (have hb1 : l[i.toNat + 1]? = some b := by rw [List.getElem?_drop, Nat.add_comm] at hk; exact hk); (have hqt := hinv.2.2 q hq); (have hpr := (stop_pair hv hq hb1).1); (have hqv := stop_at hv hq); (have hbv := stop_at hv hb1); all_goals (first | simp (maxSteps := 1000000) only [go_sem, List.take_length, ha, hlt, hk, hq] | simp (maxSteps := 1000000) only [go_sem, List.take_length, ha, hlt, hk])) | (have hlt2 := of_eq_false hlt; (first | simp (maxSteps := 1000000) only [go_sem, List.take_length, ha, hlt, hq] | simp (maxSteps := 1000000) only [go_sem, List.take_length, ha, hlt])))
    all_goals
      repeat' first | apply And.intro | intro _ | omega | assumption | with_reducible rfl
  
  all_goals (first | ((rw [hfst, if_pos ‹_›]); done) | ((rw [hfst, if_neg ‹_›]); done) | ((rw [stop_res hv hq hb1 hqt ‹_›]; exact hinv.2.1); done) | ((rw [List.length_drop]; omega); done) | ((rw [show (i + 1).toNat = i.toNat + 1 by omega, ← stop_ge hq hb1 ‹_›]; exact hinv.2.1); done) | ((have e := ‹l[(i + 1).toNat]? = some _›; rw [show (i + 1).toNat = i.toNat + 1 by omega, hb1] at e; cases e; omega); done) | ((rw [← hinv.2.1]; exact (stop_end ‹_› hlt2 hinv.1).symm); done) | omega)
end
theorem sat_impl_stopColor : Sat Tryz.prog rt0 139 (wkIn spStop) := sat_in (sat_out sat_impl_stopColor_0)
def spAlong_A : Pt × Pt × Pt → List AV
  | (f, t, p) => [.agg (ptC f), .agg (ptC t), .agg (ptC p)]
def spAlong_pre : Pt × Pt × Pt → Prop
  | (f, t, p) => True
def spAlong_post : Pt × Pt × Pt → AV → List Box → Prop
  | (f, t, p), r, bs => r = I (if okAl f t p = true then alongP f t p else 0) ∧ bs = []
def spAlong : VE.Spec := famSpec spAlong_A d_pt_pt_pt spAlong_pre spAlong_post 0 true
theorem spAlong_q : SpQ spAlong true [] false 0 (fun a i => i = [] ∧ famPre d_pt_pt_pt spAlong_A spAlong_pre a) (fun a i r b => famPost d_pt_pt_pt spAlong_post a r b) := ⟨rfl, rfl, rfl, rfl, fun _ _ => rfl, fun _ _ _ _ => rfl⟩
def tb140 : Nat → Option VE.Spec := tabOf [(64, wkIn spVPt), (98, wkIn spRnd)]
theorem tb140_64 : tb140 64 = some (wkIn spVPt) := rfl
theorem tb140_98 : tb140 98 = some (wkIn spRnd) := rfl
theorem tb140_ok : TabOK Tryz.prog rt0 tb140 := (tabOf_cons (by kernel_rfl) sat_impl_Point_valid (tabOf_cons (by kernel_rfl) sat_impl_round tabOf_nil))
set_option maxHeartbeats 4000000 in
theorem sat_impl_AlongOf_0 : Sat Tryz.prog rt0 140 (wkOut spAlong) := by
  refine fn_sat hm ttok (tab := tb140) tb140_ok Tryz.func140 (c := Tryz.f140.body.getD .skip) (by kernel_rfl) (ts := [.tmp 6]) (by kernel_rfl) Tryz.ntmps140 (sq := fun _ => true) (by kernel_rfl) ?_
  intro args ins pk hpre0 hpk
  obtain ⟨rfl, hpre0⟩ := hpre0
  obtain ⟨⟨f, t, p⟩, rfl, hpre, hdec⟩ := famPre_ex hpre0
  clear hpre0 hdec
  try simp only [spAlong_pre] at hpre
  replace hpk : pk + 0 ≤ pickLimit := hpk
  refine ⟨nle rfl, ?_⟩
  simp (maxSteps := 1000000) only [go_sem, Tryz.f140, tb140_64, tb140_98, spAlong_q, spAlong_A, spAlong_pre, spAlong_post, spVPt_q, spVPt_A, spVPt_pre, spVPt_post, spRnd_q, spRnd_A, spRnd_pre, spRnd_post]
  repeat' first | apply And.intro | intro _ | omega | assumption | with_reducible rfl
  all_goals (first | ((have h9 := al_bd ‹vPt f = true› ‹vPt t = true› ‹vPt p = true›; omega); done) | ((have h9 := al_bd ‹vPt f = true› ‹vPt t = true› ‹vPt p = true›; have h8 := dist_pos ‹¬ f = t›; omega); done) | ((simp [okAl, alongP, *]; done); done) | ((simp only [okAl, alongP, *]; simp; omega); done) | ((have h9 : okAl f t p = false := (by simp [okAl, *]); rw [h9]; rfl); done) | (simp_all [okAl, alongP]; done))
theorem sat_impl_AlongOf : Sat Tryz.prog rt0 140 (wkIn spAlong) := sat_in (sat_out sat_impl_AlongOf_0)
def tb104 : Nat → Option VE.Spec := tabOf [(140, wkIn spAlong), (139, wkIn spStop)]
theorem tb104_140 : tb104 140 = some (wkIn spAlong) := rfl
theorem tb104_139 : tb104 139 = some (wkIn spStop) := rfl
theorem tb104_ok : TabOK Tryz.prog rt0 tb104 := (tabOf_cons (by kernel_rfl) sat_impl_AlongOf (tabOf_cons (by kernel_rfl) sat_impl_stopColor tabOf_nil))
set_option maxHeartbeats 4000000 in
theorem sat_impl_Paint_at_0 : Sat Tryz.prog rt0 104 (wkOut spPaint) := by
  refine fn_sat hm ttok (tab := tb104) tb104_ok Tryz.func104 (c := Tryz.f104.body.getD .skip) (by kernel_rfl) (ts := [.cell 6 73]) (by kernel_rfl) Tryz.ntmps104 (sq := fun _ => true) (by kernel_rfl) ?_
  intro args ins pk hpre0 hpk
  obtain ⟨rfl, hpre0⟩ := hpre0
  obtain ⟨⟨p, c, w⟩, rfl, hpre, hdec⟩ := famPre_ex hpre0
  clear hpre0 hdec
  try simp only [spPaint_pre] at hpre
  replace hpk : pk + 0 ≤ pickLimit := hpk
  refine ⟨nle rfl, ?_⟩
  obtain ⟨hp1, hp2, hp3⟩ := vPnt_parts hpre.1
  have hp4 := pmid_ok hpre.2.1 hpre.2.2
  have hp5 : okAl p.f p.t (pmid c w) = true := by simp [okAl, *]
  have hp6 := alongP_bd p.f p.t (pmid c w)
  have hp7 : (⟨16 * c + 8, 16 * w + 8⟩ : Pt) = pmid c w := rfl
  simp (maxSteps := 1000000) only [go_sem, Tryz.f104, tb104_140, tb104_139, spPaint_q, spPaint_A, spPaint_pre, spPaint_post, spAlong_q, spAlong_A, spAlong_pre, spAlong_post, spStop_q, spStop_A, spStop_pre, spStop_post, hp7, hp5]
  repeat' first | apply And.intro | intro _ | omega | assumption | with_reducible rfl
  all_goals (first | (rfl; done) | (assumption; done))
theorem sat_impl_Paint_at : Sat Tryz.prog rt0 104 (wkIn spPaint) := sat_in (sat_out sat_impl_Paint_at_0)
end
section
def tb189 : Nat → Option VE.Spec := tabOf [(197, wkIn spMxS)]
theorem tb189_197 : tb189 197 = some (wkIn spMxS) := rfl
theorem tb189_ok : TabOK Tryz.prog rt0 tb189 := (tabOf_cons (by kernel_rfl) sat_spec_mix tabOf_nil)
section
attribute [local go_sem] Tryz.f189 tb189_197 spStop_q spStop_A spStop_pre spStop_post spMxS_q spMxS_A spMxS_pre spMxS_post
set_option maxHeartbeats 4000000 in
theorem sat_spec_stopColor_0 : Sat Tryz.prog rt0 189 (wkOut spStop) := by
  refine fn_sat hm ttok (tab := tb189) tb189_ok Tryz.func189 (c := Tryz.f189.body.getD .skip) (by kernel_rfl) (ts := [.cell 4 73]) (by kernel_rfl) Tryz.ntmps189 (sq := fun _ => true) (by kernel_rfl) ?_
  intro args ins pk hpre0 hpk
  obtain ⟨rfl, hpre0⟩ := hpre0
  obtain ⟨⟨l, t⟩, rfl, hpre, hdec⟩ := famPre_ex hpre0
  clear hpre0 hdec
  try simp only [spStop_pre] at hpre
  replace hpk : pk + 0 ≤ pickLimit := hpk
  refine ⟨nle rfl, ?_⟩
  obtain ⟨hv, ht0, ht1⟩ := hpre
  obtain ⟨hv1, hv2, hv3⟩ := vStops_stp hv
  obtain ⟨a, ha⟩ : ∃ a, l[0]? = some a := ⟨_, List.getElem?_eq_getElem (by omega)⟩
  have hfst := stop_first (t := t) ha
  have hav := stop_at hv ha
  simp (maxSteps := 1000000) only [go_sem, ha]
  repeat' first | apply And.intro | intro _ | omega | assumption | with_reducible rfl
  any_goals
    refine loopS (α := Int) false [2, 3, 5, 6, 7, 8, 9, 10, 11, 12, 13, 14, 15, 16, 17, 18, 19, 20, 21, 22, 23, 24, 25, 26, 27, 28, 29, 30, 31, 32, 33, 34, 35, 36, 37, 38, 39, 40, 41, 42, 43, 44, 45, 46, 47, 48, 49, 50, 51, 52, 53, 54, 55] (fun σ => []) (fun σ x => [(5, I x)]) (fun σ x => []) (fun i => 0) (fun σ => gI (σ.get 5)) (fun σ τ => []) (fun i => (1 ≤ i ∧ i ≤ l.length) ∧ stopAt l t (i - 1).toNat = stopC l t ∧ ∀ q, l[(i - 1).toNat]? = some q → q.w < t) (fun i => (l.length - i).toNat) ⟨by (simp (maxSteps := 1000000) only [go_sem, ha]; (repeat' first | apply And.intro | intro _ | omega | assumption | with_reducible rfl); all_goals (first | (rw [hfst, if_neg ‹_›]))), ?_⟩
    rintro i hinv
    try dsimp only at hinv
    rcases elemAt l i (by omega) with ⟨hlt, b, hk⟩ | hlt
    all_goals (first | ((have hlt2 := of_eq_true hlt); (obtain ⟨q, hq⟩ : ∃ q, l[(i - 1).toNat]? = some q := ⟨_, List.getElem?_eq_getElem (by omega)⟩); (have hi1 : (i - 1).toNat + 1 = i.toNat := by omega); (have hb1 : l[(i - 1).toNat + 1]? = some b := by rw [hi1]; exact hk); (have hqt := hinv.2.2 q hq); (have hpr := (stop_pair hv hq hb1).1); (have hqv := stop_at hv hq); (have hbv := stop_at hv hb1); (have hge := @stop_ge l t _ q b hq hb1); (rw [hi1] at hge); (have hT : (256 * (t - q.w)).tdiv (b.w - q.w) = 256 * (t - q.w) / (b.w - q.w) := Int.tdiv_eq_ediv_of_nonneg (by omega)); all_goals (first | simp (maxSteps := 1000000) only [go_sem, ha, hlt, hk, hq] | simp (maxSteps := 1000000) only [go_sem, ha, hlt, hk])) | (have hlt2 := of_eq_false hlt; (first | simp (maxSteps := 1000000) only [go_sem, ha, hlt, hq] | simp (maxSteps := 1000000) only [go_sem, ha, hlt])))
    all_goals
      repeat' first | apply And.intro | intro _ | omega | assumption | with_reducible rfl
  
  all_goals (first | ((rw [hfst, if_pos ‹_›]); done) | ((have h7 := part_t2 (Int.le_of_lt hqt) ‹t ≤ b.w› hpr; rw [hT]; omega); done) | (exact vCol_co hqv.2.1) | (exact vCol_co hbv.2.1) | ((rw [hT, ← stop_le hv hq hb1 (Int.le_of_lt hqt) ‹t ≤ b.w›]; exact hinv.2.1); done) | ((rw [show (i + 1 - 1).toNat = i.toNat by omega, ← hge (by omega)]; exact hinv.2.1); done) | ((have e := ‹l[(i + 1 - 1).toNat]? = some _›; rw [show (i + 1 - 1).toNat = i.toNat by omega, hk] at e; cases e; omega); done) | ((rw [← hinv.2.1]; exact (stop_end2 ‹_› hlt2 hinv.1).symm); done))
end
theorem sat_spec_stopColor : Sat Tryz.prog rt0 189 (wkIn spStop) := sat_in (sat_out sat_spec_stopColor_0)
def spAlS_A : Pt × Pt × Int × Int → List AV
  | (f, t, x, y) => [.agg (ptC f), .agg (ptC t), I x, I y]
def spAlS_pre : Pt × Pt × Int × Int → Prop
  | (f, t, x, y) => vPt f = true ∧ vPt t = true ∧ vPt ⟨x, y⟩ = true
def spAlS_post : Pt × Pt × Int × Int → AV → List Box → Prop
  | (f, t, x, y), r, bs => r = I (alongP f t ⟨x, y⟩) ∧ bs = []
def spAlS : VE.Spec := famSpec spAlS_A d_pt_pt_i_i spAlS_pre spAlS_post 0 true
theorem spAlS_q : SpQ spAlS true [] false 0 (fun a i => i = [] ∧ famPre d_pt_pt_i_i spAlS_A spAlS_pre a) (fun a i r b => famPost d_pt_pt_i_i spAlS_post a r b) := ⟨rfl, rfl, rfl, rfl, fun _ _ => rfl, fun _ _ _ _ => rfl⟩
def tb190 : Nat → Option VE.Spec := tabOf [(188, wkIn spRnd)]
theorem tb190_188 : tb190 188 = some (wkIn spRnd) := rfl
theorem tb190_ok : TabOK Tryz.prog rt0 tb190 := (tabOf_cons (by kernel_rfl) sat_spec_nearest tabOf_nil)
set_option maxHeartbeats 4000000 in
theorem sat_spec_along_0 : Sat Tryz.prog rt0 190 (wkOut spAlS) := by
  refine fn_sat hm ttok (tab := tb190) tb190_ok Tryz.func190 (c := Tryz.f190.body.getD .skip) (by kernel_rfl) (ts := [.tmp 8]) (by kernel_rfl) Tryz.ntmps190 (sq := fun _ => true) (by kernel_rfl) ?_
  intro args ins pk hpre0 hpk
  obtain ⟨rfl, hpre0⟩ := hpre0
  obtain ⟨⟨f, t, x, y⟩, rfl, hpre, hdec⟩ := famPre_ex hpre0
  clear hpre0 hdec
  try simp only [spAlS_pre] at hpre
  replace hpk : pk + 0 ≤ pickLimit := hpk
  refine ⟨nle rfl, ?_⟩
  have h9 := al_bd hpre.1 hpre.2.1 hpre.2.2
  have h8 := @dist0 f t
  have h7 := @dist_pos f t
  dsimp only at h9
  simp (maxSteps := 1000000) only [go_sem, Tryz.f190, tb190_188, spAlS_q, spAlS_A, spAlS_pre, spAlS_post, spRnd_q, spRnd_A, spRnd_pre, spRnd_post]
  repeat' first | apply And.intro | intro _ | omega | assumption | with_reducible rfl
  all_goals (first | omega | ((rw [alongP, if_pos (h8.1 ‹_›)]); done) | ((have h6 : ¬ f = t := fun e => ‹¬ _ = (0 : Int)› (h8.2 e); have h5 := h7 h6; omega); done) | ((have h6 : ¬ f = t := fun e => ‹¬ _ = (0 : Int)› (h8.2 e); rw [alongP, if_neg h6]; dsimp only; omega); done))
theorem sat_spec_along : Sat Tryz.prog rt0 190 (wkIn spAlS) := sat_in (sat_out sat_spec_along_0)
def tb177 : Nat → Option VE.Spec := tabOf [(190, wkIn spAlS), (189, wkIn spStop)]
theorem tb177_190 : tb177 190 = some (wkIn spAlS) := rfl
theorem tb177_189 : tb177 189 = some (wkIn spStop) := rfl
theorem tb177_ok : TabOK Tryz.prog rt0 tb177 := (tabOf_cons (by kernel_rfl) sat_spec_along (tabOf_cons (by kernel_rfl) sat_spec_stopColor tabOf_nil))
set_option maxHeartbeats 4000000 in
theorem sat_spec_paintAt_0 : Sat Tryz.prog rt0 177 (wkOut spPaint) := by
  refine fn_sat hm ttok (tab := tb177) tb177_ok Tryz.func177 (c := Tryz.f177.body.getD .skip) (by kernel_rfl) (ts := [.cell 6 73]) (by kernel_rfl) Tryz.ntmps177 (sq := fun _ => true) (by kernel_rfl) ?_
  intro args ins pk hpre0 hpk
  obtain ⟨rfl, hpre0⟩ := hpre0
  obtain ⟨⟨p, c, w⟩, rfl, hpre, hdec⟩ := famPre_ex hpre0
  clear hpre0 hdec
  try simp only [spPaint_pre] at hpre
  replace hpk : pk + 0 ≤ pickLimit := hpk
  refine ⟨nle rfl, ?_⟩
  obtain ⟨hp1, hp2, hp3⟩ := vPnt_parts hpre.1
  have hp4 := pmid_ok hpre.2.1 hpre.2.2
  have hp6 := alongP_bd p.f p.t (pmid c w)
  have hp7 : (⟨16 * c + 8, 16 * w + 8⟩ : Pt) = pmid c w := rfl
  simp (maxSteps := 1000000) only [go_sem, Tryz.f177, tb177_190, tb177_189, spPaint_q, spPaint_A, spPaint_pre, spPaint_post, spAlS_q, spAlS_A, spAlS_pre, spAlS_post, spStop_q, spStop_A, spStop_pre, spStop_post, hp7]
  repeat' first | apply And.intro | intro _ | omega | assumption | with_reducible rfl
  all_goals (first | (rfl; done) | (assumption; done))
theorem sat_spec_paintAt : Sat Tryz.prog rt0 177 (wkIn spPaint) := sat_in (sat_out sat_spec_paintAt_0)
end
section
theorem pix_res {f : Fil} {o : Colr} {c w : Int} (hf : vFil f = true) (ho : vCol o = true) : (if okOv (if okCv (paintP f.pn c w) (cov (ringsOf f.p) f.rl c w) = true then coverC (paintP f.pn c w) (cov (ringsOf f.p) f.rl c w) else ⟨0, 0, 0, 0⟩) o = true then overC (if okCv (paintP f.pn c w) (cov (ringsOf f.p) f.rl c w) = true then coverC (paintP f.pn c w) (cov (ringsOf f.p) f.rl c w) else ⟨0, 0, 0, 0⟩) o else ⟨0, 0, 0, 0⟩) = pix1 c w o f := by
  have hp := paintP_ok (vFil_paint hf).2.2.2 c w
  have hc := cov16 (ringsOf f.p) f.rl c w
  have h1 : okCv (paintP f.pn c w) (cov (ringsOf f.p) f.rl c w) = true := by simp only [okCv, hp, decide_eq_true hc, Bool.and_self]
  rw [if_pos h1]
  have h2 : okOv (coverC (paintP f.pn c w) (cov (ringsOf f.p) f.rl c w)) o = true := by simp only [okOv, coverC_ok hp hc, ho, Bool.and_self]
  rw [if_pos h2]; rfl
def tb73 : Nat → Option VE.Spec := tabOf [(104, wkIn spPaint), (106, wkIn spRings), (105, wkIn spCover), (103, wkIn spCovC), (102, wkIn spOvC)]
theorem tb73_104 : tb73 104 = some (wkIn spPaint) := rfl
theorem tb73_106 : tb73 106 = some (wkIn spRings) := rfl
theorem tb73_105 : tb73 105 = some (wkIn spCover) := rfl
theorem tb73_103 : tb73 103 = some (wkIn spCovC) := rfl
theorem tb73_102 : tb73 102 = some (wkIn spOvC) := rfl
theorem tb73_ok : TabOK Tryz.prog rt0 tb73 := (tabOf_cons (by kernel_rfl) sat_impl_Paint_at (tabOf_cons (by kernel_rfl) sat_impl_rings (tabOf_cons (by kernel_rfl) sat_impl_cover (tabOf_cons (by kernel_rfl) sat_impl_CoverColor (tabOf_cons (by kernel_rfl) sat_impl_OverColor tabOf_nil)))))
@[go_sem] def sat_impl_Scenep1 : VE.Plan := pF 0 (pF 1 (pF 2 (pF 3 (pF 5 (pF 6 (pF 8 (pF 9 (pF 10 (pF 11 (pF 14 (pA 4 (pA 7 (pA 12 (pA 13 (pA 15 (pA 16 pN pN) pN) pN) pN) pN) pN)))))))))))
section
attribute [local go_sem] Tryz.f73 tb73_104 tb73_106 tb73_105 tb73_103 tb73_102 spPix_q spPix_A spPix_pre spPix_post spPaint_q spPaint_A spPaint_pre spPaint_post spRings_q spRings_A spRings_pre spRings_post spCover_q spCover_A spCover_pre spCover_post spCovC_q spCovC_A spCovC_pre spCovC_post spOvC_q spOvC_A spOvC_pre spOvC_post
set_option maxHeartbeats 4000000 in
theorem sat_impl_Scene_pixel_0 : Sat Tryz.prog rt0 73 (wkOut spPix) := by
  refine fn_sat hm ttok (tab := tb73) tb73_ok Tryz.func73 (c := Tryz.f73.body.getD .skip) (by kernel_rfl) (ts := [.cell 6 73]) (by kernel_rfl) Tryz.ntmps73 (sq := fun id => !(id == 5)) (by kernel_rfl) ?_
  intro args ins pk hpre0 hpk
  obtain ⟨rfl, hpre0⟩ := hpre0
  obtain ⟨⟨s, c, w⟩, rfl, hpre, hdec⟩ := famPre_ex hpre0
  clear hpre0 hdec
  try simp only [spPix_pre] at hpre
  replace hpk : pk + 0 ≤ pickLimit := hpk
  refine ⟨nle rfl, ?_⟩
  obtain ⟨⟨hfs, hal⟩, hc, hw⟩ := hpre
  have hfl := hfs.len
  simp (maxSteps := 1000000) only [go_sem]
  repeat' first | apply And.intro | intro _ | omega | assumption | with_reducible rfl
  all_goals try (refine drawI sat_impl_Scenep1 (by decide +kernel) ?_; simp (maxSteps := 1000000) only [go_sem, planW, stepW, Go.VE.stepT, Go.VE.clearO]; repeat' first | apply And.intro | intro _ | omega | assumption | with_reducible rfl)
  any_goals
    refine loopS (α := Colr × Int) false [0, 3, 4, 5, 8, 9, 10, 11, 14, 15, 16, 17, 18, 19, 20, 21, 22, 23, 24, 25, 26, 27, 28, 29, 30, 31, 32, 33, 34] (fun σ => [gId (σ.get 7)]) (fun σ x => [(14, I x.2)]) (fun σ x => [(gId (σ.get 7), some ⟨[coC x.1], 4, 73, false, false⟩)]) (fun (o, i) => 0) (fun σ => (gA coCd default (.agg ((boxN σ (gId (σ.get 7))).es.headD [])), gI (σ.get 14))) (fun σ τ => []) (fun (o, i) => (0 ≤ i ∧ i ≤ s.fs.length) ∧ o = pixF (s.fs.take i.toNat) c w) (fun (o, i) => (s.fs.length - i).toNat) ⟨by (simp (maxSteps := 1000000) only [go_sem]; (repeat' first | apply And.intro | intro _ | omega | assumption | with_reducible rfl); all_goals (first | rfl)), ?_⟩
    rintro ⟨o, i⟩ hinv
    try dsimp only at hinv
    rcases elemAt s.fs i (by omega) with ⟨hlt, f, hk⟩ | hlt
    all_goals (first | ((have hlt2 := of_eq_true hlt); (have hf := okFs_at hfs hk); (have hvf := List.all_eq_true.1 hal f (List.mem_of_getElem? hk)); (have hvp := vFil_paint hvf); (have hpo := paintP_ok hvp.2.2.2 c w); (have hcv := cov16 (ringsOf f.p) f.rl c w); (have hco := coverC_ok hpo hcv); (have hpi := pixF_ok (c := c) (w := w) (all_take2 hal i.toNat)); (have hpi2 : vCol o = true := by rw [hinv.2]; exact hpi); all_goals simp (maxSteps := 1000000) only [go_sem, hlt, hk]) | (have hlt2 := of_eq_false hlt; simp (maxSteps := 1000000) only [go_sem, hlt]))
    all_goals
      repeat' first | apply And.intro | intro _ | omega | assumption | with_reducible rfl
    all_goals try (refine drawI sat_impl_Scenep1 (by decide +kernel) ?_; (first | simp (maxSteps := 1000000) only [go_sem, planW, stepW, Go.VE.stepT, Go.VE.clearO, hlt, hk] | simp (maxSteps := 1000000) only [go_sem, planW, stepW, Go.VE.stepT, Go.VE.clearO]); repeat' first | apply And.intro | intro _ | omega | assumption | with_reducible rfl)
  
  all_goals (first | (exact hvp.2.2.2) | (exact hvp.1) | (exact hvp.2.1) | ((rw [pix_res hvf hpi2, pix_step hk hinv.1.1, ← hinv.2]); done) | ((rw [hinv.2, takeA (by omega)]); done))
end
theorem sat_impl_Scene_pixel : Sat Tryz.prog rt0 73 (wkIn spPix) := sat_in (sat_out sat_impl_Scene_pixel_0)
end
section
def tb151 : Nat → Option VE.Spec := tabOf [(177, wkIn spPaint), (170, wkIn spRings), (174, wkIn spCover), (176, wkIn spScal), (175, wkIn spOvS)]
theorem tb151_177 : tb151 177 = some (wkIn spPaint) := rfl
theorem tb151_170 : tb151 170 = some (wkIn spRings) := rfl
theorem tb151_174 : tb151 174 = some (wkIn spCover) := rfl
theorem tb151_176 : tb151 176 = some (wkIn spScal) := rfl
theorem tb151_175 : tb151 175 = some (wkIn spOvS) := rfl
theorem tb151_ok : TabOK Tryz.prog rt0 tb151 := (tabOf_cons (by kernel_rfl) sat_spec_paintAt (tabOf_cons (by kernel_rfl) sat_spec_rings (tabOf_cons (by kernel_rfl) sat_spec_cover (tabOf_cons (by kernel_rfl) sat_spec_scaled (tabOf_cons (by kernel_rfl) sat_spec_over tabOf_nil)))))
@[go_sem] def sat_spec_pixelp1 : VE.Plan := pF 0 (pF 1 (pF 3 (pF 4 (pF 5 (pF 6 (pA 2 (pA 7 (pA 8 pN pN) pN) pN))))))
@[go_sem] def sat_spec_pixelp2 : VE.Plan := pF 0 (pF 1 (pF 2 (pF 3 (pF 5 (pF 7 (pA 4 (pA 6 (pA 8 (pA 9 pN pN) pN) pN) pN))))))
section
attribute [local go_sem] Tryz.f151 tb151_177 tb151_170 tb151_174 tb151_176 tb151_175 spPix_q spPix_A spPix_pre spPix_post spPaint_q spPaint_A spPaint_pre spPaint_post spRings_q spRings_A spRings_pre spRings_post spCover_q spCover_A spCover_pre spCover_post spScal_q spScal_A spScal_pre spScal_post spOvS_q spOvS_A spOvS_pre spOvS_post
set_option maxHeartbeats 4000000 in
theorem sat_spec_pixel_0 : Sat Tryz.prog rt0 151 (wkOut spPix) := by
  refine fn_sat hm ttok (tab := tb151) tb151_ok Tryz.func151 (c := Tryz.f151.body.getD .skip) (by kernel_rfl) (ts := [.cell 6 73]) (by kernel_rfl) Tryz.ntmps151 (sq := fun id => !(id == 6 || id == 7)) (by kernel_rfl) ?_
  intro args ins pk hpre0 hpk
  obtain ⟨rfl, hpre0⟩ := hpre0
  obtain ⟨⟨s, c, w⟩, rfl, hpre, hdec⟩ := famPre_ex hpre0
  clear hpre0 hdec
  try simp only [spPix_pre] at hpre
  replace hpk : pk + 0 ≤ pickLimit := hpk
  refine ⟨nle rfl, ?_⟩
  obtain ⟨⟨hfs, hal⟩, hc, hw⟩ := hpre
  have hfl := hfs.len
  simp (maxSteps := 1000000) only [go_sem]
  repeat' first | apply And.intro | intro _ | omega | assumption | with_reducible rfl
  all_goals try (refine drawI sat_spec_pixelp1 (by decide +kernel) ?_; simp (maxSteps := 1000000) only [go_sem, planW, stepW, Go.VE.stepT, Go.VE.clearO]; repeat' first | apply And.intro | intro _ | omega | assumption | with_reducible rfl)
  all_goals try (refine drawI sat_spec_pixelp2 (by decide +kernel) ?_; simp (maxSteps := 1000000) only [go_sem, planW, stepW, Go.VE.stepT, Go.VE.clearO]; repeat' first | apply And.intro | intro _ | omega | assumption | with_reducible rfl)
  any_goals
    refine loopS (α := Colr × Int) false [0, 4, 5, 8, 9, 10, 11, 12, 13, 14, 15, 16, 17, 18, 19, 20, 21, 22, 23, 24, 25, 26, 27, 28, 29, 30, 31, 32, 33, 34, 35, 36, 37, 38, 39, 40] (fun σ => [gId (σ.get 7)]) (fun σ x => [(8, I x.2)]) (fun σ x => [(gId (σ.get 7), some ⟨[coC x.1], 4, 73, false, false⟩)]) (fun (o, i) => 0) (fun σ => (gA coCd default (.agg ((boxN σ (gId (σ.get 7))).es.headD [])), gI (σ.get 8))) (fun σ τ => []) (fun (o, i) => (0 ≤ i ∧ i ≤ s.fs.length) ∧ o = pixF (s.fs.take i.toNat) c w) (fun (o, i) => (s.fs.length - i).toNat) ⟨by (simp (maxSteps := 1000000) only [go_sem]; (repeat' first | apply And.intro | intro _ | omega | assumption | with_reducible rfl); all_goals (first | rfl)), ?_⟩
    rintro ⟨o, i⟩ hinv
    try dsimp only at hinv
    rcases elemAt s.fs i (by omega) with ⟨hlt, f, hk⟩ | hlt
    all_goals (first | ((have hlt2 := of_eq_true hlt); (have hf := okFs_at hfs hk); (have hvf := List.all_eq_true.1 hal f (List.mem_of_getElem? hk)); (have hvp := vFil_paint hvf); (have hpo := paintP_ok hvp.2.2.2 c w); (have hcv := cov16 (ringsOf f.p) f.rl c w); (have hco := coverC_ok hpo hcv); (have hpi := pixF_ok (c := c) (w := w) (all_take2 hal i.toNat)); (have hpi2 : vCol o = true := by rw [hinv.2]; exact hpi); all_goals simp (maxSteps := 1000000) only [go_sem, hlt, hk]) | (have hlt2 := of_eq_false hlt; simp (maxSteps := 1000000) only [go_sem, hlt]))
    all_goals
      repeat' first | apply And.intro | intro _ | omega | assumption | with_reducible rfl
    all_goals try (refine drawI sat_spec_pixelp1 (by decide +kernel) ?_; (first | simp (maxSteps := 1000000) only [go_sem, planW, stepW, Go.VE.stepT, Go.VE.clearO, hlt, hk] | simp (maxSteps := 1000000) only [go_sem, planW, stepW, Go.VE.stepT, Go.VE.clearO]); repeat' first | apply And.intro | intro _ | omega | assumption | with_reducible rfl)
    all_goals try (refine drawI sat_spec_pixelp2 (by decide +kernel) ?_; (first | simp (maxSteps := 1000000) only [go_sem, planW, stepW, Go.VE.stepT, Go.VE.clearO, hlt, hk] | simp (maxSteps := 1000000) only [go_sem, planW, stepW, Go.VE.stepT, Go.VE.clearO]); repeat' first | apply And.intro | intro _ | omega | assumption | with_reducible rfl)
  
  all_goals (first | (exact hvp.2.2.2) | (exact hvp.1) | (exact hvp.2.1) | (exact vCol_co hpo) | (exact vCol_co hco) | (exact vCol_co hpi2) | ((rw [pix_step hk hinv.1.1, ← hinv.2]; rfl); done) | ((rw [hinv.2, takeA (by omega)]); done) | omega)
end
theorem sat_spec_pixel : Sat Tryz.prog rt0 151 (wkIn spPix) := sat_in (sat_out sat_spec_pixel_0)
end
end Go.Proofs.YthphndhiacikaaaGreatDoor
