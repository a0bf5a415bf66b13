/- Contracts of functions of the program vectorraster, each proved for all states that fit its description. No conditions. -/
import Derived.Test.YtcejoknapbhloaaGreatPA
set_option linter.unusedSimpArgs false
set_option linter.unusedVariables false
set_option maxRecDepth 100000
namespace Go.Proofs.YtcejoknapbhloaaGreat
open Go Go.VE
section
theorem tbox_mul {w h t : Int} (hs : szd w h = true) (h0 : 0 ≤ t) (h1 : t < acr w * acr h) : t / acr w < acr h ∧ 0 ≤ t / acr w ∧ 0 ≤ t % acr w ∧ t % acr w < acr w := by
  have hm := acr_mul hs
  refine ⟨Int.ediv_lt_of_lt_mul (by omega) (by rw [Int.mul_comm]; exact h1), Int.ediv_nonneg h0 (by omega), Int.emod_nonneg _ (by omega), Int.emod_lt_of_pos _ (by omega)⟩
theorem tcnt_of {w h : Int} (hs : szd w h = true) : tcnt w h = acr w * acr h := if_pos hs
theorem isT_of {w h t : Int} : isT w h t = decide (0 ≤ t ∧ t ≤ tcnt w h - 1) := by
  unfold isT tcnt
  generalize acr w * acr h = q
  by_cases hs : szd w h = true
  · rw [if_pos hs, hs, Bool.true_and, decide_eq_decide]; omega
  · rw [if_neg hs, show szd w h = false by simpa using hs, Bool.false_and]
    symm
    rw [decide_eq_false_iff_not]
    omega
theorem isT_facts {w h t : Int} (ht : isT w h t = true) : (1 ≤ w ∧ w ≤ 12) ∧ (1 ≤ h ∧ h ≤ 12) ∧ szd w h = true ∧ (1 ≤ acr w ∧ acr w ≤ 3) ∧ (1 ≤ acr h ∧ acr h ≤ 3) ∧ 0 ≤ t ∧ t < acr w * acr h ∧ t ≤ 9 ∧ (0 ≤ t / acr w ∧ t / acr w < acr h) ∧ (0 ≤ t % acr w ∧ t % acr w < acr w) := by
  simp only [isT, Bool.and_eq_true, decide_eq_true_eq] at ht
  have h1 := acr_mul ht.1
  have h2 := tbox_mul ht.1 ht.2.1 ht.2.2
  have h3 := ht.1
  simp only [szd, decide_eq_true_eq] at h3
  exact ⟨h3.1, h3.2, ht.1, h1.1, h1.2.1, ht.2.1, ht.2.2, by omega, ⟨h2.2.1, h2.1⟩, h2.2.2⟩
def spTb_A : Int × Int × Int → List AV
  | (w, h, t) => [I w, I h, I t]
def spTb_pre : Int × Int × Int → Prop
  | (w, h, t) => True
def spTb_post : Int × Int × Int → AV → List Box → Prop
  | (w, h, t), r, bs => r = .tup [.agg (bxC (if isT w h t = true then tbox w h t else ⟨0, 0, 0, 0⟩)), B (isT w h t)] ∧ bs = []
def spTb : VE.Spec := famSpec spTb_A d_i_i_i spTb_pre spTb_post 0 true
theorem spTb_q : SpQ spTb true [] false 0 (fun a i => i = [] ∧ famPre d_i_i_i spTb_A spTb_pre a) (fun a i r b => famPost d_i_i_i spTb_post a r b) := ⟨rfl, rfl, rfl, rfl, fun _ _ => rfl, fun _ _ _ _ => rfl⟩
theorem tcnt_bd (w h : Int) : -1 ≤ tcnt w h ∧ tcnt w h ≤ 9 := by
  unfold tcnt
  split
  · have := acr_mul ‹_›; omega
  · omega
def tb53 : Nat → Option VE.Spec := tabOf [(48, wkIn spIn), (20, wkIn spTc), (51, wkIn spAcr)]
theorem tb53_48 : tb53 48 = some (wkIn spIn) := rfl
theorem tb53_20 : tb53 20 = some (wkIn spTc) := rfl
theorem tb53_51 : tb53 51 = some (wkIn spAcr) := rfl
theorem tb53_ok : TabOK Tryz.prog rt0 tb53 := (tabOf_cons (by kernel_rfl) sat_impl_in (tabOf_cons (by kernel_rfl) sat_impl_TileCount (tabOf_cons (by kernel_rfl) sat_impl_across tabOf_nil)))
section
attribute [local go_sem] Tryz.f53 tb53_48 tb53_20 tb53_51 spTb_q spTb_A spTb_pre spTb_post spIn_q spIn_A spIn_pre spIn_post spTc_q spTc_A spTc_pre spTc_post spAcr_q spAcr_A spAcr_pre spAcr_post tbox
set_option maxHeartbeats 4000000 in
theorem sat_impl_TileBox_0 : Sat Tryz.prog rt0 53 (wkOut spTb) := by
  refine fn_sat hm ttok (tab := tb53) tb53_ok Tryz.func53 (c := Tryz.f53.body.getD .skip) (by kernel_rfl) (ts := [.cell 6 90, .tmp 7]) (by kernel_rfl) Tryz.ntmps53 (sq := fun id => !(id == 3)) (by kernel_rfl) ?_
  intro args ins pk hpre0 hpk
  obtain ⟨rfl, hpre0⟩ := hpre0
  obtain ⟨⟨w, h, t⟩, rfl, hpre, hdec⟩ := famPre_ex hpre0
  clear hpre0 hdec
  try simp only [spTb_pre] at hpre
  replace hpk : pk + 0 ≤ pickLimit := hpk
  refine ⟨nle rfl, ?_⟩
  simp (maxSteps := 1000000) only [go_sem]
  have q := tcnt_bd w h
  have e := isT_of (w := w) (h := h) (t := t)
  cases ht : isT w h t with
  | false =>
    have n1 : ¬(0 ≤ t ∧ t ≤ tcnt w h - 1) := by rw [e] at ht; simpa using ht
    simp only [if_false, Bool.false_eq_true]
    repeat' first | apply And.intro | intro _ | omega | assumption | with_reducible rfl
    all_goals rfl
  | true =>
    obtain ⟨f1, f2, f3, f4, f5, f6, f7, f8, f9, f10⟩ := isT_facts ht
    have e1 : t.tdiv (acr w) = t / acr w := tdiv_nn f6
    have e2 : t.tmod (acr w) = t % acr w := tmod_nn f6
    have n1 : 0 ≤ t ∧ t ≤ tcnt w h - 1 := by rw [e] at ht; simpa using ht
    repeat' first | apply And.intro | intro _ | omega | assumption | with_reducible rfl
    all_goals (refine drawI (pF 0 (pF 1 (pF 5 (pF 6 (pA 2 (pF 3 (pF 4 (pA 7 (pF 8 (pF 9 (pA 10 (pA 11 pN pN) pN))) pN))) pN))))) (by decide +kernel) ?_; simp (maxSteps := 1000000) only [go_sem, planW, stepW, e1, e2])
    repeat' first | apply And.intro | intro _ | omega | assumption | with_reducible rfl
    all_goals first | rfl | exact ht.symm | (rw [if_pos ht]; rfl)
  all_goals (first | (simp_all; done) | (grind; done))
end
theorem sat_impl_TileBox : Sat Tryz.prog rt0 53 (wkIn spTb) := sat_in (sat_out sat_impl_TileBox_0)
def spTiles_A : Int × Int → List AV
  | (w, h) => [I w, I h]
def spTiles_pre : Int × Int → Prop
  | (w, h) => szd w h = true
def spTiles_post : Int × Int → AV → List Box → Prop
  | (w, h), r, bs => r = I (acr w * acr h) ∧ bs = []
def spTiles : VE.Spec := famSpec spTiles_A d_i_i spTiles_pre spTiles_post 0 true
theorem spTiles_q : SpQ spTiles true [] false 0 (fun a i => i = [] ∧ famPre d_i_i spTiles_A spTiles_pre a) (fun a i r b => famPost d_i_i spTiles_post a r b) := ⟨rfl, rfl, rfl, rfl, fun _ _ => rfl, fun _ _ _ _ => rfl⟩
def tb28 : Nat → Option VE.Spec := tabOf []
theorem tb28_ok : TabOK Tryz.prog rt0 tb28 := tabOf_nil
set_option maxHeartbeats 4000000 in
theorem sat_spec_tiles_0 : Sat Tryz.prog rt0 28 (wkOut spTiles) := by
  refine fn_sat hm ttok (tab := tb28) tb28_ok Tryz.func28 (c := Tryz.f28.body.getD .skip) (by kernel_rfl) (ts := [.tmp 4]) (by kernel_rfl) Tryz.ntmps28 (sq := fun _ => true) (by kernel_rfl) ?_
  intro args ins pk hpre0 hpk
  obtain ⟨rfl, hpre0⟩ := hpre0
  obtain ⟨⟨w, h⟩, rfl, hpre, hdec⟩ := famPre_ex hpre0
  clear hpre0 hdec
  try simp only [spTiles_pre] at hpre
  replace hpk : pk + 0 ≤ pickLimit := hpk
  refine ⟨nle rfl, ?_⟩
  simp (maxSteps := 1000000) only [go_sem, Tryz.f28, spTiles_q, spTiles_A, spTiles_pre, spTiles_post]
  have hm := acr_mul hpre
  simp only [szd, decide_eq_true_eq] at hpre
  have e1 : (w + 3).tdiv 4 = acr w := tdiv_nn (by omega)
  have e2 : (h + 3).tdiv 4 = acr h := tdiv_nn (by omega)
  simp only [show w + 4 - 1 = w + 3 by omega, show h + 4 - 1 = h + 3 by omega, e1, e2]
  repeat' first | apply And.intro | intro _ | omega | assumption | with_reducible rfl
  all_goals (first | (simp_all; done) | (grind; done))
theorem sat_spec_tiles : Sat Tryz.prog rt0 28 (wkIn spTiles) := sat_in (sat_out sat_spec_tiles_0)
def spTb2_A : Int × Int × Int → List AV
  | (w, h, t) => [I w, I h, I t]
def spTb2_pre : Int × Int × Int → Prop
  | (w, h, t) => isT w h t = true
def spTb2_post : Int × Int × Int → AV → List Box → Prop
  | (w, h, t), r, bs => r = .agg (bxC (tbox w h t)) ∧ bs = []
def spTb2 : VE.Spec := famSpec spTb2_A d_i_i_i spTb2_pre spTb2_post 0 true
theorem spTb2_q : SpQ spTb2 true [] false 0 (fun a i => i = [] ∧ famPre d_i_i_i spTb2_A spTb2_pre a) (fun a i r b => famPost d_i_i_i spTb2_post a r b) := ⟨rfl, rfl, rfl, rfl, fun _ _ => rfl, fun _ _ _ _ => rfl⟩
def tb58 : Nat → Option VE.Spec := tabOf []
theorem tb58_ok : TabOK Tryz.prog rt0 tb58 := tabOf_nil
set_option maxHeartbeats 4000000 in
theorem sat_spec_tileBox_0 : Sat Tryz.prog rt0 58 (wkOut spTb2) := by
  refine fn_sat hm ttok (tab := tb58) tb58_ok Tryz.func58 (c := Tryz.f58.body.getD .skip) (by kernel_rfl) (ts := [.cell 6 90]) (by kernel_rfl) Tryz.ntmps58 (sq := fun _ => true) (by kernel_rfl) ?_
  intro args ins pk hpre0 hpk
  obtain ⟨rfl, hpre0⟩ := hpre0
  obtain ⟨⟨w, h, t⟩, rfl, hpre, hdec⟩ := famPre_ex hpre0
  clear hpre0 hdec
  try simp only [spTb2_pre] at hpre
  replace hpk : pk + 0 ≤ pickLimit := hpk
  refine ⟨nle rfl, ?_⟩
  simp (maxSteps := 1000000) only [go_sem, Tryz.f58, spTb2_q, spTb2_A, spTb2_pre, spTb2_post, tbox]
  obtain ⟨f1, f2, f3, f4, f5, f6, f7, f8, f9, f10⟩ := isT_facts hpre
  have e0 : (w + 3).tdiv 4 = acr w := tdiv_nn (by omega)
  have e1 : t.tdiv (acr w) = t / acr w := tdiv_nn f6
  have e2 : t.tmod (acr w) = t % acr w := tmod_nn f6
  simp only [show w + 4 - 1 = w + 3 by omega, e0, e1, e2, tbox]
  repeat' first | apply And.intro | intro _ | omega | assumption | with_reducible rfl
  all_goals (first | (simp_all; done) | (grind; done))
theorem sat_spec_tileBox : Sat Tryz.prog rt0 58 (wkIn spTb2) := sat_in (sat_out sat_spec_tileBox_0)
end
end Go.Proofs.YtcejoknapbhloaaGreat
