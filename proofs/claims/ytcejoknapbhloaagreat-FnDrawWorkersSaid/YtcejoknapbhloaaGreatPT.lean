/- Contracts of functions of the program vectorraster, each proved for all states that fit its description. No conditions. -/
import Derived.Test.YtcejoknapbhloaaGreatPS
import Derived.Test.YtcejoknapbhloaaGreatPQ
import Derived.Test.YtcejoknapbhloaaGreatPO
import Derived.Test.YtcejoknapbhloaaGreatPG
import Derived.Test.YtcejoknapbhloaaGreatPE
set_option linter.unusedSimpArgs false
set_option linter.unusedVariables false
set_option maxRecDepth 100000
namespace Go.Proofs.YtcejoknapbhloaaGreat
open Go Go.VE
section
theorem stop_res {l : List Stp} {t : Int} {n : Nat} {q b : Stp} (hv : vStops l = true) (hq : l[n]? = some q) (hb : l[n + 1]? = some b) (h0 : q.w ≤ t) (h : t < b.w) : (if okMx q.c b.c (256 * (t - q.w) / (b.w - q.w)) = true then mixC q.c b.c (256 * (t - q.w) / (b.w - q.w)) else ⟨0, 0, 0, 0⟩) = stopAt l t n := by
  have h1 : okMx q.c b.c (256 * (t - q.w) / (b.w - q.w)) = true := by
    simp only [okMx, (stop_at hv hq).2.1, (stop_at hv hb).2.1, decide_eq_true (part_t h0 h), Bool.and_self]
  rw [if_pos h1, stop_lt hq hb h]
def tb125 : Nat → Option VE.Spec := tabOf [(156, wkIn spMxC), (141, wkIn spFloor)]
theorem tb125_156 : tb125 156 = some (wkIn spMxC) := rfl
theorem tb125_141 : tb125 141 = some (wkIn spFloor) := rfl
theorem tb125_ok : TabOK Tryz.prog rt0 tb125 := (tabOf_cons (by kernel_rfl) sat_impl_MixColor (tabOf_cons (by kernel_rfl) sat_impl_floor tabOf_nil))
section
attribute [local go_sem] Tryz.f125 tb125_156 tb125_141 spStop_q spStop_A spStop_pre spStop_post spMxC_q spMxC_A spMxC_pre spMxC_post spFloor_q spFloor_A spFloor_pre spFloor_post
set_option maxHeartbeats 4000000 in
theorem sat_impl_stopColor_0 : Sat Tryz.prog rt0 125 (wkOut spStop) := by
  refine fn_sat hm ttok (tab := tb125) tb125_ok Tryz.func125 (c := Tryz.f125.body.getD .skip) (by kernel_rfl) (ts := [.cell 4 66]) (by kernel_rfl) Tryz.ntmps125 (sq := fun _ => true) (by kernel_rfl) ?_
  intro args ins pk hpre0 hpk
  obtain ⟨rfl, hpre0⟩ := hpre0
  obtain ⟨⟨l, t⟩, rfl, hpre, hdec⟩ := famPre_ex hpre0
  clear hpre0 hdec
  try simp only [spStop_pre] at hpre
  replace hpk : pk + 0 ≤ pickLimit := hpk
  refine ⟨nle rfl, ?_⟩
  obtain ⟨hv, ht0, ht1⟩ := hpre
  obtain ⟨hv1, hv2, hv3⟩ := vStops_stp hv
  obtain ⟨a, ha⟩ : ∃ a, l[0]? = some a := ⟨_, List.getElem?_eq_getElem (by omega)⟩
  have hfst := stop_first (t := t) ha
  have hav := stop_at hv ha
  simp (maxSteps := 1000000) only [go_sem, List.take_length, ha]
  repeat' first | apply And.intro | intro _ | omega | assumption | with_reducible rfl
  any_goals
    refine loopS (α := Int) false [2, 3, 5, 6, 7, 8, 9, 10, 11, 12, 13, 14, 15, 16, 17, 18, 21, 22, 23, 24, 25, 26, 27, 28, 29, 30, 31, 32, 33, 34, 35, 36, 37, 38, 39, 40, 41, 42, 43, 44, 45, 46, 47, 48, 49, 50] (fun σ => []) (fun σ x => [(21, I x)]) (fun σ x => []) (fun i => 0) (fun σ => gI (σ.get 21)) (fun σ τ => []) (fun i => (0 ≤ i ∧ i ≤ (l.drop 1).length) ∧ stopAt l t i.toNat = stopC l t ∧ ∀ q, l[i.toNat]? = some q → q.w ≤ t) (fun i => ((l.drop 1).length - i).toNat) ⟨by (simp (maxSteps := 1000000) only [go_sem, List.take_length, ha]; (repeat' first | apply And.intro | intro _ | omega | assumption | with_reducible rfl); all_goals (first | (rw [hfst, if_neg ‹_›]))), ?_⟩
    rintro i hinv
    try dsimp only at hinv
    rcases elemAt (l.drop 1) i (by omega) with ⟨hlt, b, hk⟩ | hlt
    all_goals (first | ((have hlt2 := of_eq_true hlt); (rw [List.length_drop] at hlt2); (obtain ⟨q, hq⟩ : ∃ q, l[i.toNat]? = some q := ⟨_, List.getElem?_eq_getElem (by omega)⟩); (have hb1 : l[i.toNat + 1]? = some b := by rw [List.getElem?_drop, Nat.add_comm] at hk; exact hk); (have hqt := hinv.2.2 q hq); (have hpr := (stop_pair hv hq hb1).1); (have hqv := stop_at hv hq); (have hbv := stop_at hv hb1); all_goals (first | simp (maxSteps := 1000000) only [go_sem, List.take_length, ha, hlt, hk, hq] | simp (maxSteps := 1000000) only [go_sem, List.take_length, ha, hlt, hk])) | (have hlt2 := of_eq_false hlt; (first | simp (maxSteps := 1000000) only [go_sem, List.take_length, ha, hlt, hq] | simp (maxSteps := 1000000) only [go_sem, List.take_length, ha, hlt])))
    all_goals
      repeat' first | apply And.intro | intro _ | omega | assumption | with_reducible rfl
  
  all_goals (first | ((rw [hfst, if_pos ‹_›]); done) | ((rw [hfst, if_neg ‹_›]); done) | ((rw [stop_res hv hq hb1 hqt ‹_›]; exact hinv.2.1); done) | ((rw [List.length_drop]; omega); done) | ((rw [show (i + 1).toNat = i.toNat + 1 by omega, ← stop_ge hq hb1 ‹_›]; exact hinv.2.1); done) | ((have e := ‹l[(i + 1).toNat]? = some _›; rw [show (i + 1).toNat = i.toNat + 1 by omega, hb1] at e; cases e; omega); done) | ((rw [← hinv.2.1]; exact (stop_end ‹_› hlt2 hinv.1).symm); done) | omega)
end
theorem sat_impl_stopColor : Sat Tryz.prog rt0 125 (wkIn spStop) := sat_in (sat_out sat_impl_stopColor_0)
def spAlong_A : Pt × Pt × Pt → List AV
  | (f, t, p) => [.agg (ptC f), .agg (ptC t), .agg (ptC p)]
def spAlong_pre : Pt × Pt × Pt → Prop
  | (f, t, p) => True
def spAlong_post : Pt × Pt × Pt → AV → List Box → Prop
  | (f, t, p), r, bs => r = I (if okAl f t p = true then alongP f t p else 0) ∧ bs = []
def spAlong : VE.Spec := famSpec spAlong_A d_pt_pt_pt spAlong_pre spAlong_post 0 true
theorem spAlong_q : SpQ spAlong true [] false 0 (fun a i => i = [] ∧ famPre d_pt_pt_pt spAlong_A spAlong_pre a) (fun a i r b => famPost d_pt_pt_pt spAlong_post a r b) := ⟨rfl, rfl, rfl, rfl, fun _ _ => rfl, fun _ _ _ _ => rfl⟩
def tb126 : Nat → Option VE.Spec := tabOf [(119, wkIn spVPt), (123, wkIn spRnd)]
theorem tb126_119 : tb126 119 = some (wkIn spVPt) := rfl
theorem tb126_123 : tb126 123 = some (wkIn spRnd) := rfl
theorem tb126_ok : TabOK Tryz.prog rt0 tb126 := (tabOf_cons (by kernel_rfl) sat_impl_Point_valid (tabOf_cons (by kernel_rfl) sat_impl_round tabOf_nil))
set_option maxHeartbeats 4000000 in
theorem sat_impl_AlongOf_0 : Sat Tryz.prog rt0 126 (wkOut spAlong) := by
  refine fn_sat hm ttok (tab := tb126) tb126_ok Tryz.func126 (c := Tryz.f126.body.getD .skip) (by kernel_rfl) (ts := [.tmp 6]) (by kernel_rfl) Tryz.ntmps126 (sq := fun _ => true) (by kernel_rfl) ?_
  intro args ins pk hpre0 hpk
  obtain ⟨rfl, hpre0⟩ := hpre0
  obtain ⟨⟨f, t, p⟩, rfl, hpre, hdec⟩ := famPre_ex hpre0
  clear hpre0 hdec
  try simp only [spAlong_pre] at hpre
  replace hpk : pk + 0 ≤ pickLimit := hpk
  refine ⟨nle rfl, ?_⟩
  simp (maxSteps := 1000000) only [go_sem, Tryz.f126, tb126_119, tb126_123, spAlong_q, spAlong_A, spAlong_pre, spAlong_post, spVPt_q, spVPt_A, spVPt_pre, spVPt_post, spRnd_q, spRnd_A, spRnd_pre, spRnd_post]
  repeat' first | apply And.intro | intro _ | omega | assumption | with_reducible rfl
  all_goals (first | ((have h9 := al_bd ‹vPt f = true› ‹vPt t = true› ‹vPt p = true›; omega); done) | ((have h9 := al_bd ‹vPt f = true› ‹vPt t = true› ‹vPt p = true›; have h8 := dist_pos ‹¬ f = t›; omega); done) | ((simp [okAl, alongP, *]; done); done) | ((simp only [okAl, alongP, *]; simp; omega); done) | ((have h9 : okAl f t p = false := (by simp [okAl, *]); rw [h9]; rfl); done) | (simp_all [okAl, alongP]; done))
theorem sat_impl_AlongOf : Sat Tryz.prog rt0 126 (wkIn spAlong) := sat_in (sat_out sat_impl_AlongOf_0)
def tb83 : Nat → Option VE.Spec := tabOf [(126, wkIn spAlong), (125, wkIn spStop)]
theorem tb83_126 : tb83 126 = some (wkIn spAlong) := rfl
theorem tb83_125 : tb83 125 = some (wkIn spStop) := rfl
theorem tb83_ok : TabOK Tryz.prog rt0 tb83 := (tabOf_cons (by kernel_rfl) sat_impl_AlongOf (tabOf_cons (by kernel_rfl) sat_impl_stopColor tabOf_nil))
set_option maxHeartbeats 4000000 in
theorem sat_impl_Paint_at_0 : Sat Tryz.prog rt0 83 (wkOut spPaint) := by
  refine fn_sat hm ttok (tab := tb83) tb83_ok Tryz.func83 (c := Tryz.f83.body.getD .skip) (by kernel_rfl) (ts := [.cell 6 66]) (by kernel_rfl) Tryz.ntmps83 (sq := fun _ => true) (by kernel_rfl) ?_
  intro args ins pk hpre0 hpk
  obtain ⟨rfl, hpre0⟩ := hpre0
  obtain ⟨⟨p, c, w⟩, rfl, hpre, hdec⟩ := famPre_ex hpre0
  clear hpre0 hdec
  try simp only [spPaint_pre] at hpre
  replace hpk : pk + 0 ≤ pickLimit := hpk
  refine ⟨nle rfl, ?_⟩
  obtain ⟨hp1, hp2, hp3⟩ := vPnt_parts hpre.1
  have hp4 := pmid_ok hpre.2.1 hpre.2.2
  have hp5 : okAl p.f p.t (pmid c w) = true := by simp [okAl, *]
  have hp6 := alongP_bd p.f p.t (pmid c w)
  have hp7 : (⟨16 * c + 8, 16 * w + 8⟩ : Pt) = pmid c w := rfl
  simp (maxSteps := 1000000) only [go_sem, Tryz.f83, tb83_126, tb83_125, spPaint_q, spPaint_A, spPaint_pre, spPaint_post, spAlong_q, spAlong_A, spAlong_pre, spAlong_post, spStop_q, spStop_A, spStop_pre, spStop_post, hp7, hp5]
  repeat' first | apply And.intro | intro _ | omega | assumption | with_reducible rfl
  all_goals (first | (rfl; done) | (assumption; done))
theorem sat_impl_Paint_at : Sat Tryz.prog rt0 83 (wkIn spPaint) := sat_in (sat_out sat_impl_Paint_at_0)
end
section
def tb137 : Nat → Option VE.Spec := tabOf [(165, wkIn spMxS)]
theorem tb137_165 : tb137 165 = some (wkIn spMxS) := rfl
theorem tb137_ok : TabOK Tryz.prog rt0 tb137 := (tabOf_cons (by kernel_rfl) sat_spec_mix tabOf_nil)
section
attribute [local go_sem] Tryz.f137 tb137_165 spStop_q spStop_A spStop_pre spStop_post spMxS_q spMxS_A spMxS_pre spMxS_post
set_option maxHeartbeats 4000000 in
theorem sat_spec_stopColor_0 : Sat Tryz.prog rt0 137 (wkOut spStop) := by
  refine fn_sat hm ttok (tab := tb137) tb137_ok Tryz.func137 (c := Tryz.f137.body.getD .skip) (by kernel_rfl) (ts := [.cell 4 66]) (by kernel_rfl) Tryz.ntmps137 (sq := fun _ => true) (by kernel_rfl) ?_
  intro args ins pk hpre0 hpk
  obtain ⟨rfl, hpre0⟩ := hpre0
  obtain ⟨⟨l, t⟩, rfl, hpre, hdec⟩ := famPre_ex hpre0
  clear hpre0 hdec
  try simp only [spStop_pre] at hpre
  replace hpk : pk + 0 ≤ pickLimit := hpk
  refine ⟨nle rfl, ?_⟩
  obtain ⟨hv, ht0, ht1⟩ := hpre
  obtain ⟨hv1, hv2, hv3⟩ := vStops_stp hv
  obtain ⟨a, ha⟩ : ∃ a, l[0]? = some a := ⟨_, List.getElem?_eq_getElem (by omega)⟩
  have hfst := stop_first (t := t) ha
  have hav := stop_at hv ha
  simp (maxSteps := 1000000) only [go_sem, ha]
  repeat' first | apply And.intro | intro _ | omega | assumption | with_reducible rfl
  any_goals
    refine loopS (α := Int) false [2, 3, 5, 6, 7, 8, 9, 10, 11, 12, 13, 14, 15, 16, 17, 18, 19, 20, 21, 22, 23, 24, 25, 26, 27, 28, 29, 30, 31, 32, 33, 34, 35, 36, 37, 38, 39, 40, 41, 42, 43, 44, 45, 46, 47, 48, 49, 50, 51, 52, 53, 54, 55] (fun σ => []) (fun σ x => [(5, I x)]) (fun σ x => []) (fun i => 0) (fun σ => gI (σ.get 5)) (fun σ τ => []) (fun i => (1 ≤ i ∧ i ≤ l.length) ∧ stopAt l t (i - 1).toNat = stopC l t ∧ ∀ q, l[(i - 1).toNat]? = some q → q.w < t) (fun i => (l.length - i).toNat) ⟨by (simp (maxSteps := 1000000) only [go_sem, ha]; (repeat' first | apply And.intro | intro _ | omega | assumption | with_reducible rfl); all_goals (first | (rw [hfst, if_neg ‹_›]))), ?_⟩
    rintro i hinv
    try dsimp only at hinv
    rcases elemAt l i (by omega) with ⟨hlt, b, hk⟩ | hlt
    all_goals (first | ((have hlt2 := of_eq_true hlt); (obtain ⟨q, hq⟩ : ∃ q, l[(i - 1).toNat]? = some q := ⟨_, List.getElem?_eq_getElem (by omega)⟩); (have hi1 : (i - 1).toNat + 1 = i.toNat := by omega); (have hb1 : l[(i - 1).toNat + 1]? = some b := by rw [hi1]; exact hk); (have hqt := hinv.2.2 q hq); (have hpr := (stop_pair hv hq hb1).1); (have hqv := stop_at hv hq); (have hbv := stop_at hv hb1); (have hge := @stop_ge l t _ q b hq hb1); (rw [hi1] at hge); (have hT : (256 * (t - q.w)).tdiv (b.w - q.w) = 256 * (t - q.w) / (b.w - q.w) := Int.tdiv_eq_ediv_of_nonneg (by omega)); all_goals (first | simp (maxSteps := 1000000) only [go_sem, ha, hlt, hk, hq] | simp (maxSteps := 1000000) only [go_sem, ha, hlt, hk])) | (have hlt2 := of_eq_false hlt; (first | simp (maxSteps := 1000000) only [go_sem, ha, hlt, hq] | simp (maxSteps := 1000000) only [go_sem, ha, hlt])))
    all_goals
      repeat' first | apply And.intro | intro _ | omega | assumption | with_reducible rfl
  
  all_goals (first | ((rw [hfst, if_pos ‹_›]); done) | ((have h7 := part_t2 (Int.le_of_lt hqt) ‹t ≤ b.w› hpr; rw [hT]; omega); done) | (exact vCol_co hqv.2.1) | (exact vCol_co hbv.2.1) | ((rw [hT, ← stop_le hv hq hb1 (Int.le_of_lt hqt) ‹t ≤ b.w›]; exact hinv.2.1); done) | ((rw [show (i + 1 - 1).toNat = i.toNat by omega, ← hge (by omega)]; exact hinv.2.1); done) | ((have e := ‹l[(i + 1 - 1).toNat]? = some _›; rw [show (i + 1 - 1).toNat = i.toNat by omega, hk] at e; cases e; omega); done) | ((rw [← hinv.2.1]; exact (stop_end2 ‹_› hlt2 hinv.1).symm); done))
end
theorem sat_spec_stopColor : Sat Tryz.prog rt0 137 (wkIn spStop) := sat_in (sat_out sat_spec_stopColor_0)
def spAlS_A : Pt × Pt × Int × Int → List AV
  | (f, t, x, y) => [.agg (ptC f), .agg (ptC t), I x, I y]
def spAlS_pre : Pt × Pt × Int × Int → Prop
  | (f, t, x, y) => vPt f = true ∧ vPt t = true ∧ vPt ⟨x, y⟩ = true
def spAlS_post : Pt × Pt × Int × Int → AV → List Box → Prop
  | (f, t, x, y), r, bs => r = I (alongP f t ⟨x, y⟩) ∧ bs = []
def spAlS : VE.Spec := famSpec spAlS_A d_pt_pt_i_i spAlS_pre spAlS_post 0 true
theorem spAlS_q : SpQ spAlS true [] false 0 (fun a i => i = [] ∧ famPre d_pt_pt_i_i spAlS_A spAlS_pre a) (fun a i r b => famPost d_pt_pt_i_i spAlS_post a r b) := ⟨rfl, rfl, rfl, rfl, fun _ _ => rfl, fun _ _ _ _ => rfl⟩
def tb138 : Nat → Option VE.Spec := tabOf [(136, wkIn spRnd)]
theorem tb138_136 : tb138 136 = some (wkIn spRnd) := rfl
theorem tb138_ok : TabOK Tryz.prog rt0 tb138 := (tabOf_cons (by kernel_rfl) sat_spec_nearest tabOf_nil)
set_option maxHeartbeats 4000000 in
theorem sat_spec_along_0 : Sat Tryz.prog rt0 138 (wkOut spAlS) := by
  refine fn_sat hm ttok (tab := tb138) tb138_ok Tryz.func138 (c := Tryz.f138.body.getD .skip) (by kernel_rfl) (ts := [.tmp 8]) (by kernel_rfl) Tryz.ntmps138 (sq := fun _ => true) (by kernel_rfl) ?_
  intro args ins pk hpre0 hpk
  obtain ⟨rfl, hpre0⟩ := hpre0
  obtain ⟨⟨f, t, x, y⟩, rfl, hpre, hdec⟩ := famPre_ex hpre0
  clear hpre0 hdec
  try simp only [spAlS_pre] at hpre
  replace hpk : pk + 0 ≤ pickLimit := hpk
  refine ⟨nle rfl, ?_⟩
  have h9 := al_bd hpre.1 hpre.2.1 hpre.2.2
  have h8 := @dist0 f t
  have h7 := @dist_pos f t
  dsimp only at h9
  simp (maxSteps := 1000000) only [go_sem, Tryz.f138, tb138_136, spAlS_q, spAlS_A, spAlS_pre, spAlS_post, spRnd_q, spRnd_A, spRnd_pre, spRnd_post]
  repeat' first | apply And.intro | intro _ | omega | assumption | with_reducible rfl
  all_goals (first | omega | ((rw [alongP, if_pos (h8.1 ‹_›)]); done) | ((have h6 : ¬ f = t := fun e => ‹¬ _ = (0 : Int)› (h8.2 e); have h5 := h7 h6; omega); done) | ((have h6 : ¬ f = t := fun e => ‹¬ _ = (0 : Int)› (h8.2 e); rw [alongP, if_neg h6]; dsimp only; omega); done))
theorem sat_spec_along : Sat Tryz.prog rt0 138 (wkIn spAlS) := sat_in (sat_out sat_spec_along_0)
def tb92 : Nat → Option VE.Spec := tabOf [(138, wkIn spAlS), (137, wkIn spStop)]
theorem tb92_138 : tb92 138 = some (wkIn spAlS) := rfl
theorem tb92_137 : tb92 137 = some (wkIn spStop) := rfl
theorem tb92_ok : TabOK Tryz.prog rt0 tb92 := (tabOf_cons (by kernel_rfl) sat_spec_along (tabOf_cons (by kernel_rfl) sat_spec_stopColor tabOf_nil))
set_option maxHeartbeats 4000000 in
theorem sat_spec_paintAt_0 : Sat Tryz.prog rt0 92 (wkOut spPaint) := by
  refine fn_sat hm ttok (tab := tb92) tb92_ok Tryz.func92 (c := Tryz.f92.body.getD .skip) (by kernel_rfl) (ts := [.cell 6 66]) (by kernel_rfl) Tryz.ntmps92 (sq := fun _ => true) (by kernel_rfl) ?_
  intro args ins pk hpre0 hpk
  obtain ⟨rfl, hpre0⟩ := hpre0
  obtain ⟨⟨p, c, w⟩, rfl, hpre, hdec⟩ := famPre_ex hpre0
  clear hpre0 hdec
  try simp only [spPaint_pre] at hpre
  replace hpk : pk + 0 ≤ pickLimit := hpk
  refine ⟨nle rfl, ?_⟩
  obtain ⟨hp1, hp2, hp3⟩ := vPnt_parts hpre.1
  have hp4 := pmid_ok hpre.2.1 hpre.2.2
  have hp6 := alongP_bd p.f p.t (pmid c w)
  have hp7 : (⟨16 * c + 8, 16 * w + 8⟩ : Pt) = pmid c w := rfl
  simp (maxSteps := 1000000) only [go_sem, Tryz.f92, tb92_138, tb92_137, spPaint_q, spPaint_A, spPaint_pre, spPaint_post, spAlS_q, spAlS_A, spAlS_pre, spAlS_post, spStop_q, spStop_A, spStop_pre, spStop_post, hp7]
  repeat' first | apply And.intro | intro _ | omega | assumption | with_reducible rfl
  all_goals (first | (rfl; done) | (assumption; done))
theorem sat_spec_paintAt : Sat Tryz.prog rt0 92 (wkIn spPaint) := sat_in (sat_out sat_spec_paintAt_0)
end
section
theorem pix_res {f : Fil} {o : Colr} {c w : Int} (hf : vFil f = true) (ho : vCol o = true) : (if okOv (if okCv (paintP f.pn c w) (cov (ringsOf f.p) f.rl c w) = true then coverC (paintP f.pn c w) (cov (ringsOf f.p) f.rl c w) else ⟨0, 0, 0, 0⟩) o = true then overC (if okCv (paintP f.pn c w) (cov (ringsOf f.p) f.rl c w) = true then coverC (paintP f.pn c w) (cov (ringsOf f.p) f.rl c w) else ⟨0, 0, 0, 0⟩) o else ⟨0, 0, 0, 0⟩) = pix1 c w o f := by
  have hp := paintP_ok (vFil_paint hf).2.2.2 c w
  have hc := cov16 (ringsOf f.p) f.rl c w
  have h1 : okCv (paintP f.pn c w) (cov (ringsOf f.p) f.rl c w) = true := by simp only [okCv, hp, decide_eq_true hc, Bool.and_self]
  rw [if_pos h1]
  have h2 : okOv (coverC (paintP f.pn c w) (cov (ringsOf f.p) f.rl c w)) o = true := by simp only [okOv, coverC_ok hp hc, ho, Bool.and_self]
  rw [if_pos h2]; rfl
def tb54 : Nat → Option VE.Spec := tabOf [(83, wkIn spPaint), (77, wkIn spRings), (84, wkIn spCover), (82, wkIn spCovC), (81, wkIn spOvC)]
theorem tb54_83 : tb54 83 = some (wkIn spPaint) := rfl
theorem tb54_77 : tb54 77 = some (wkIn spRings) := rfl
theorem tb54_84 : tb54 84 = some (wkIn spCover) := rfl
theorem tb54_82 : tb54 82 = some (wkIn spCovC) := rfl
theorem tb54_81 : tb54 81 = some (wkIn spOvC) := rfl
theorem tb54_ok : TabOK Tryz.prog rt0 tb54 := (tabOf_cons (by kernel_rfl) sat_impl_Paint_at (tabOf_cons (by kernel_rfl) sat_impl_rings (tabOf_cons (by kernel_rfl) sat_impl_cover (tabOf_cons (by kernel_rfl) sat_impl_CoverColor (tabOf_cons (by kernel_rfl) sat_impl_OverColor tabOf_nil)))))
@[go_sem] def sat_impl_Scenep1 : VE.Plan := pF 0 (pF 1 (pF 2 (pF 3 (pF 5 (pF 6 (pF 8 (pF 9 (pF 10 (pF 11 (pF 14 (pA 4 (pA 7 (pA 12 (pA 13 (pA 15 (pA 16 pN pN) pN) pN) pN) pN) pN)))))))))))
section
attribute [local go_sem] Tryz.f54 tb54_83 tb54_77 tb54_84 tb54_82 tb54_81 spPix_q spPix_A spPix_pre spPix_post spPaint_q spPaint_A spPaint_pre spPaint_post spRings_q spRings_A spRings_pre spRings_post spCover_q spCover_A spCover_pre spCover_post spCovC_q spCovC_A spCovC_pre spCovC_post spOvC_q spOvC_A spOvC_pre spOvC_post
set_option maxHeartbeats 4000000 in
theorem sat_impl_Scene_pixel_0 : Sat Tryz.prog rt0 54 (wkOut spPix) := by
  refine fn_sat hm ttok (tab := tb54) tb54_ok Tryz.func54 (c := Tryz.f54.body.getD .skip) (by kernel_rfl) (ts := [.cell 6 66]) (by kernel_rfl) Tryz.ntmps54 (sq := fun id => !(id == 5)) (by kernel_rfl) ?_
  intro args ins pk hpre0 hpk
  obtain ⟨rfl, hpre0⟩ := hpre0
  obtain ⟨⟨s, c, w⟩, rfl, hpre, hdec⟩ := famPre_ex hpre0
  clear hpre0 hdec
  try simp only [spPix_pre] at hpre
  replace hpk : pk + 0 ≤ pickLimit := hpk
  refine ⟨nle rfl, ?_⟩
  obtain ⟨⟨hfs, hal⟩, hc, hw⟩ := hpre
  have hfl := hfs.len
  simp (maxSteps := 1000000) only [go_sem]
  repeat' first | apply And.intro | intro _ | omega | assumption | with_reducible rfl
  all_goals try (refine drawI sat_impl_Scenep1 (by decide +kernel) ?_; simp (maxSteps := 1000000) only [go_sem, planW, stepW, Go.VE.stepT, Go.VE.clearO]; repeat' first | apply And.intro | intro _ | omega | assumption | with_reducible rfl)
  any_goals
    refine loopS (α := Colr × Int) false [0, 3, 4, 5, 8, 9, 10, 11, 14, 15, 16, 17, 18, 19, 20, 21, 22, 23, 24, 25, 26, 27, 28, 29, 30, 31, 32, 33, 34] (fun σ => [gId (σ.get 7)]) (fun σ x => [(14, I x.2)]) (fun σ x => [(gId (σ.get 7), some ⟨[coC x.1], 4, 66, false, false⟩)]) (fun (o, i) => 0) (fun σ => (gA coCd default (.agg ((boxN σ (gId (σ.get 7))).es.headD [])), gI (σ.get 14))) (fun σ τ => []) (fun (o, i) => (0 ≤ i ∧ i ≤ s.fs.length) ∧ o = pixF (s.fs.take i.toNat) c w) (fun (o, i) => (s.fs.length - i).toNat) ⟨by (simp (maxSteps := 1000000) only [go_sem]; (repeat' first | apply And.intro | intro _ | omega | assumption | with_reducible rfl); all_goals (first | rfl)), ?_⟩
    rintro ⟨o, i⟩ hinv
    try dsimp only at hinv
    rcases elemAt s.fs i (by omega) with ⟨hlt, f, hk⟩ | hlt
    all_goals (first | ((have hlt2 := of_eq_true hlt); (have hf := okFs_at hfs hk); (have hvf := List.all_eq_true.1 hal f (List.mem_of_getElem? hk)); (have hvp := vFil_paint hvf); (have hpo := paintP_ok hvp.2.2.2 c w); (have hcv := cov16 (ringsOf f.p) f.rl c w); (have hco := coverC_ok hpo hcv); (have hpi := pixF_ok (c := c) (w := w) (all_take2 hal i.toNat)); (have hpi2 : vCol o = true := by rw [hinv.2]; exact hpi); all_goals simp (maxSteps := 1000000) only [go_sem, hlt, hk]) | (have hlt2 := of_eq_false hlt; simp (maxSteps := 1000000) only [go_sem, hlt]))
    all_goals
      repeat' first | apply And.intro | intro _ | omega | assumption | with_reducible rfl
    all_goals try (refine drawI sat_impl_Scenep1 (by decide +kernel) ?_; (first | simp (maxSteps := 1000000) only [go_sem, planW, stepW, Go.VE.stepT, Go.VE.clearO, hlt, hk] | simp (maxSteps := 1000000) only [go_sem, planW, stepW, Go.VE.stepT, Go.VE.clearO]); repeat' first | apply And.intro | intro _ | omega | assumption | with_reducible rfl)
  
  all_goals (first | (exact hvp.2.2.2) | (exact hvp.1) | (exact hvp.2.1) | ((rw [pix_res hvf hpi2, pix_step hk hinv.1.1, ← hinv.2]); done) | ((rw [hinv.2, takeA (by omega)]); done))
end
theorem sat_impl_Scene_pixel : Sat Tryz.prog rt0 54 (wkIn spPix) := sat_in (sat_out sat_impl_Scene_pixel_0)
end
section
def tb59 : Nat → Option VE.Spec := tabOf [(92, wkIn spPaint), (65, wkIn spRings), (89, wkIn spCover), (91, wkIn spScal), (90, wkIn spOvS)]
theorem tb59_92 : tb59 92 = some (wkIn spPaint) := rfl
theorem tb59_65 : tb59 65 = some (wkIn spRings) := rfl
theorem tb59_89 : tb59 89 = some (wkIn spCover) := rfl
theorem tb59_91 : tb59 91 = some (wkIn spScal) := rfl
theorem tb59_90 : tb59 90 = some (wkIn spOvS) := rfl
theorem tb59_ok : TabOK Tryz.prog rt0 tb59 := (tabOf_cons (by kernel_rfl) sat_spec_paintAt (tabOf_cons (by kernel_rfl) sat_spec_rings (tabOf_cons (by kernel_rfl) sat_spec_cover (tabOf_cons (by kernel_rfl) sat_spec_scaled (tabOf_cons (by kernel_rfl) sat_spec_over tabOf_nil)))))
@[go_sem] def sat_spec_pixelp1 : VE.Plan := pF 0 (pF 1 (pF 3 (pF 4 (pF 5 (pF 6 (pA 2 (pA 7 (pA 8 pN pN) pN) pN))))))
@[go_sem] def sat_spec_pixelp2 : VE.Plan := pF 0 (pF 1 (pF 2 (pF 3 (pF 5 (pF 7 (pA 4 (pA 6 (pA 8 (pA 9 pN pN) pN) pN) pN))))))
section
attribute [local go_sem] Tryz.f59 tb59_92 tb59_65 tb59_89 tb59_91 tb59_90 spPix_q spPix_A spPix_pre spPix_post spPaint_q spPaint_A spPaint_pre spPaint_post spRings_q spRings_A spRings_pre spRings_post spCover_q spCover_A spCover_pre spCover_post spScal_q spScal_A spScal_pre spScal_post spOvS_q spOvS_A spOvS_pre spOvS_post
set_option maxHeartbeats 4000000 in
theorem sat_spec_pixel_0 : Sat Tryz.prog rt0 59 (wkOut spPix) := by
  refine fn_sat hm ttok (tab := tb59) tb59_ok Tryz.func59 (c := Tryz.f59.body.getD .skip) (by kernel_rfl) (ts := [.cell 6 66]) (by kernel_rfl) Tryz.ntmps59 (sq := fun id => !(id == 6 || id == 7)) (by kernel_rfl) ?_
  intro args ins pk hpre0 hpk
  obtain ⟨rfl, hpre0⟩ := hpre0
  obtain ⟨⟨s, c, w⟩, rfl, hpre, hdec⟩ := famPre_ex hpre0
  clear hpre0 hdec
  try simp only [spPix_pre] at hpre
  replace hpk : pk + 0 ≤ pickLimit := hpk
  refine ⟨nle rfl, ?_⟩
  obtain ⟨⟨hfs, hal⟩, hc, hw⟩ := hpre
  have hfl := hfs.len
  simp (maxSteps := 1000000) only [go_sem]
  repeat' first | apply And.intro | intro _ | omega | assumption | with_reducible rfl
  all_goals try (refine drawI sat_spec_pixelp1 (by decide +kernel) ?_; simp (maxSteps := 1000000) only [go_sem, planW, stepW, Go.VE.stepT, Go.VE.clearO]; repeat' first | apply And.intro | intro _ | omega | assumption | with_reducible rfl)
  all_goals try (refine drawI sat_spec_pixelp2 (by decide +kernel) ?_; simp (maxSteps := 1000000) only [go_sem, planW, stepW, Go.VE.stepT, Go.VE.clearO]; repeat' first | apply And.intro | intro _ | omega | assumption | with_reducible rfl)
  any_goals
    refine loopS (α := Colr × Int) false [0, 4, 5, 8, 9, 10, 11, 12, 13, 14, 15, 16, 17, 18, 19, 20, 21, 22, 23, 24, 25, 26, 27, 28, 29, 30, 31, 32, 33, 34, 35, 36, 37, 38, 39, 40] (fun σ => [gId (σ.get 7)]) (fun σ x => [(8, I x.2)]) (fun σ x => [(gId (σ.get 7), some ⟨[coC x.1], 4, 66, false, false⟩)]) (fun (o, i) => 0) (fun σ => (gA coCd default (.agg ((boxN σ (gId (σ.get 7))).es.headD [])), gI (σ.get 8))) (fun σ τ => []) (fun (o, i) => (0 ≤ i ∧ i ≤ s.fs.length) ∧ o = pixF (s.fs.take i.toNat) c w) (fun (o, i) => (s.fs.length - i).toNat) ⟨by (simp (maxSteps := 1000000) only [go_sem]; (repeat' first | apply And.intro | intro _ | omega | assumption | with_reducible rfl); all_goals (first | rfl)), ?_⟩
    rintro ⟨o, i⟩ hinv
    try dsimp only at hinv
    rcases elemAt s.fs i (by omega) with ⟨hlt, f, hk⟩ | hlt
    all_goals (first | ((have hlt2 := of_eq_true hlt); (have hf := okFs_at hfs hk); (have hvf := List.all_eq_true.1 hal f (List.mem_of_getElem? hk)); (have hvp := vFil_paint hvf); (have hpo := paintP_ok hvp.2.2.2 c w); (have hcv := cov16 (ringsOf f.p) f.rl c w); (have hco := coverC_ok hpo hcv); (have hpi := pixF_ok (c := c) (w := w) (all_take2 hal i.toNat)); (have hpi2 : vCol o = true := by rw [hinv.2]; exact hpi); all_goals simp (maxSteps := 1000000) only [go_sem, hlt, hk]) | (have hlt2 := of_eq_false hlt; simp (maxSteps := 1000000) only [go_sem, hlt]))
    all_goals
      repeat' first | apply And.intro | intro _ | omega | assumption | with_reducible rfl
    all_goals try (refine drawI sat_spec_pixelp1 (by decide +kernel) ?_; (first | simp (maxSteps := 1000000) only [go_sem, planW, stepW, Go.VE.stepT, Go.VE.clearO, hlt, hk] | simp (maxSteps := 1000000) only [go_sem, planW, stepW, Go.VE.stepT, Go.VE.clearO]); repeat' first | apply And.intro | intro _ | omega | assumption | with_reducible rfl)
    all_goals try (refine drawI sat_spec_pixelp2 (by decide +kernel) ?_; (first | simp (maxSteps := 1000000) only [go_sem, planW, stepW, Go.VE.stepT, Go.VE.clearO, hlt, hk] | simp (maxSteps := 1000000) only [go_sem, planW, stepW, Go.VE.stepT, Go.VE.clearO]); repeat' first | apply And.intro | intro _ | omega | assumption | with_reducible rfl)
  
  all_goals (first | (exact hvp.2.2.2) | (exact hvp.1) | (exact hvp.2.1) | (exact vCol_co hpo) | (exact vCol_co hco) | (exact vCol_co hpi2) | ((rw [pix_step hk hinv.1.1, ← hinv.2]; rfl); done) | ((rw [hinv.2, takeA (by omega)]); done) | omega)
end
theorem sat_spec_pixel : Sat Tryz.prog rt0 59 (wkIn spPix) := sat_in (sat_out sat_spec_pixel_0)
end
end Go.Proofs.YtcejoknapbhloaaGreat
