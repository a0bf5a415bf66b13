/- Contracts of functions of the program vectorraster, each proved for all states that fit its description. No conditions. -/
import Derived.Test.YtkhplopcjkkejaaGreatPS
import Derived.Test.YtkhplopcjkkejaaGreatPQ
import Derived.Test.YtkhplopcjkkejaaGreatPO
import Derived.Test.YtkhplopcjkkejaaGreatPG
import Derived.Test.YtkhplopcjkkejaaGreatPE
import Derived.Test.YtkhplopcjkkejaaGreatPR
import Derived.Test.YtkhplopcjkkejaaGreatPP
import Derived.Test.YtkhplopcjkkejaaGreatPH
set_option linter.unusedSimpArgs false
set_option linter.unusedVariables false
section
set_option maxRecDepth 100000
set_option linter.unusedSimpArgs false
set_option linter.unusedVariables false
namespace Go.Proofs.YtkhplopcjkkejaaGreat
open Go Go.VE
theorem stop_res {l : List Stp} {t : Int} {n : Nat} {q b : Stp} (hv : vStops l = true) (hq : l[n]? = some q) (hb : l[n + 1]? = some b) (h0 : q.w ≤ t) (h : t < b.w) : (if okMx q.c b.c (256 * (t - q.w) / (b.w - q.w)) = true then mixC q.c b.c (256 * (t - q.w) / (b.w - q.w)) else ⟨0, 0, 0, 0⟩) = stopAt l t n := by
  have h1 : okMx q.c b.c (256 * (t - q.w) / (b.w - q.w)) = true := by
    simp only [okMx, (stop_at hv hq).2.1, (stop_at hv hb).2.1, decide_eq_true (part_t h0 h), Bool.and_self]
  rw [if_pos h1, stop_lt hq hb h]
def tb108 : Nat → Option VE.Spec := tabOf [(153, wkIn spMxC), (105, wkIn spFloor)]
theorem tb108_153 : tb108 153 = some (wkIn spMxC) := rfl
theorem tb108_105 : tb108 105 = some (wkIn spFloor) := rfl
theorem tb108_ok : TabOK Tryz.prog rt0 tb108 := (tabOf_cons (by kernel_rfl) sat_impl_MixColor (tabOf_cons (by kernel_rfl) sat_impl_floor tabOf_nil))
set_option maxHeartbeats 4000000 in
theorem sat_impl_stopColor_0 : Sat Tryz.prog rt0 108 (wkOut spStop) := by
  refine fn_sat hm ttok (tab := tb108) tb108_ok Tryz.func108 (c := Tryz.f108.body.getD .skip) (by kernel_rfl) (ts := [.cell 4 29]) (by kernel_rfl) Tryz.ntmps108 (sq := fun _ => true) (by kernel_rfl) ?_
  intro args ins pk hpre0 hpk
  obtain ⟨rfl, hpre0⟩ := hpre0
  obtain ⟨⟨l, t⟩, rfl, hpre, hdec⟩ := famPre_ex hpre0
  clear hpre0 hdec
  try simp only [spStop_pre] at hpre
  replace hpk : pk + 0 ≤ pickLimit := hpk
  refine ⟨Nat.le_of_ble_eq_true rfl, ?_⟩
  obtain ⟨hv, ht0, ht1⟩ := hpre
  obtain ⟨hv1, hv2, hv3⟩ := vStops_stp hv
  obtain ⟨a, ha⟩ : ∃ a, l[0]? = some a := ⟨_, List.getElem?_eq_getElem (by omega)⟩
  have hfst := stop_first (t := t) ha
  have hav := stop_at hv ha
  simp (config := { maxSteps := 1000000 }) only [go_sem, ↓ifP_true, ↓ifP_false, ↓ifP_not, Nat.reduceLT, Nat.reduceAdd, Nat.reduceBEq, Nat.reduceSub, Nat.reduceLeDiff, Nat.reduceEqDiff, Nat.reduceMul, Int.reduceToNat, Int.reduceEq, Int.reduceLT, Int.reduceLE, Int.reduceAdd, Int.reduceSub, Int.reduceMul, reduceCtorEq, cond_true, cond_false, forall_eq', forall_eq, forall_const, implies_true, if_true, if_false, exists_eq_left', exists_eq', exists_eq, ne_eq, Tryz.f108, tb108_153, tb108_105, spStop_q, spStop_A, spStop_pre, spStop_post, spMxC_q, spMxC_A, spMxC_pre, spMxC_post, spFloor_q, spFloor_A, spFloor_pre, spFloor_post, List.take_length, ha]
  repeat' (first | apply And.intro | (intro _) | omega | assumption | with_reducible rfl)
  any_goals
    refine loopS (α := Int) false [2, 3, 5, 6, 7, 8, 9, 10, 11, 12, 13, 14, 15, 16, 17, 18, 21, 22, 23, 24, 25, 26, 27, 28, 29, 30, 31, 32, 33, 34, 35, 36, 37, 38, 39, 40, 41, 42, 43, 44, 45, 46, 47, 48, 49, 50] (fun σ => []) (fun σ x => [(21, I x)]) (fun σ x => []) (fun i => 0) (fun σ => gI (σ.get 21)) (fun σ τ => []) (fun i => (0 ≤ i ∧ i ≤ (l.drop 1).length) ∧ stopAt l t i.toNat = stopC l t ∧ ∀ q, l[i.toNat]? = some q → q.w ≤ t) (fun i => ((l.drop 1).length - i).toNat) ⟨by (simp (config := { maxSteps := 1000000 }) only [go_sem, ↓ifP_true, ↓ifP_false, ↓ifP_not, Nat.reduceLT, Nat.reduceAdd, Nat.reduceBEq, Nat.reduceSub, Nat.reduceLeDiff, Nat.reduceEqDiff, Nat.reduceMul, Int.reduceToNat, Int.reduceEq, Int.reduceLT, Int.reduceLE, Int.reduceAdd, Int.reduceSub, Int.reduceMul, reduceCtorEq, cond_true, cond_false, forall_eq', forall_eq, forall_const, implies_true, if_true, if_false, exists_eq_left', exists_eq', exists_eq, ne_eq, Tryz.f108, tb108_153, tb108_105, spStop_q, spStop_A, spStop_pre, spStop_post, spMxC_q, spMxC_A, spMxC_pre, spMxC_post, spFloor_q, spFloor_A, spFloor_pre, spFloor_post, List.take_length, ha]; (repeat' (first | apply And.intro | (intro _) | omega | assumption | with_reducible rfl)); all_goals (first | (rw [hfst, if_neg ‹_›]))), ?_⟩
    rintro i hinv
    try dsimp only at hinv
    rcases elemAt (l.drop 1) i (by omega) with ⟨hlt, b, hk⟩ | hlt
    all_goals (first | ((have hlt2 := of_eq_true hlt); (rw [List.length_drop] at hlt2); (obtain ⟨q, hq⟩ : ∃ q, l[i.toNat]? = some q := ⟨_, List.getElem?_eq_getElem (by omega)⟩); (have hb1 : l[i.toNat + 1]? = some b := by rw [List.getElem?_drop, Nat.add_comm] at hk; exact hk); (have hqt := hinv.2.2 q hq); (have hpr := (stop_pair hv hq hb1).1); (have hqv := stop_at hv hq); (have hbv := stop_at hv hb1); all_goals (first | simp (config := { maxSteps := 1000000 }) only [go_sem, ↓ifP_true, ↓ifP_false, ↓ifP_not, Nat.reduceLT, Nat.reduceAdd, Nat.reduceBEq, Nat.reduceSub, Nat.reduceLeDiff, Nat.reduceEqDiff, Nat.reduceMul, Int.reduceToNat, Int.reduceEq, Int.reduceLT, Int.reduceLE, Int.reduceAdd, Int.reduceSub, Int.reduceMul, reduceCtorEq, cond_true, cond_false, forall_eq', forall_eq, forall_const, implies_true, if_true, if_false, exists_eq_left', exists_eq', exists_eq, ne_eq, Tryz.f108, tb108_153, tb108_105, spStop_q, spStop_A, spStop_pre, spStop_post, spMxC_q, spMxC_A, spMxC_pre, spMxC_post, spFloor_q, spFloor_A, spFloor_pre, spFloor_post, List.take_length, ha, hlt, hk, hq] | simp (config := { maxSteps := 1000000 }) only [go_sem, ↓ifP_true, ↓ifP_false, ↓ifP_not, Nat.reduceLT, Nat.reduceAdd, Nat.reduceBEq, Nat.reduceSub, Nat.reduceLeDiff, Nat.reduceEqDiff, Nat.reduceMul, Int.reduceToNat, Int.reduceEq, Int.reduceLT, Int.reduceLE, Int.reduceAdd, Int.reduceSub, Int.reduceMul, reduceCtorEq, cond_true, cond_false, forall_eq', forall_eq, forall_const, implies_true, if_true, if_false, exists_eq_left', exists_eq', exists_eq, ne_eq, Tryz.f108, tb108_153, tb108_105, spStop_q, spStop_A, spStop_pre, spStop_post, spMxC_q, spMxC_A, spMxC_pre, spMxC_post, spFloor_q, spFloor_A, spFloor_pre, spFloor_post, List.take_length, ha, hlt, hk])) | (have hlt2 := of_eq_false hlt; (first | simp (config := { maxSteps := 1000000 }) only [go_sem, ↓ifP_true, ↓ifP_false, ↓ifP_not, Nat.reduceLT, Nat.reduceAdd, Nat.reduceBEq, Nat.reduceSub, Nat.reduceLeDiff, Nat.reduceEqDiff, Nat.reduceMul, Int.reduceToNat, Int.reduceEq, Int.reduceLT, Int.reduceLE, Int.reduceAdd, Int.reduceSub, Int.reduceMul, reduceCtorEq, cond_true, cond_false, forall_eq', forall_eq, forall_const, implies_true, if_true, if_false, exists_eq_left', exists_eq', exists_eq, ne_eq, Tryz.f108, tb108_153, tb108_105, spStop_q, spStop_A, spStop_pre, spStop_post, spMxC_q, spMxC_A, spMxC_pre, spMxC_post, spFloor_q, spFloor_A, spFloor_pre, spFloor_post, List.take_length, ha, hlt, hq] | simp (config := { maxSteps := 1000000 }) only [go_sem, ↓ifP_true, ↓ifP_false, ↓ifP_not, Nat.reduceLT, Nat.reduceAdd, Nat.reduceBEq, Nat.reduceSub, Nat.reduceLeDiff, Nat.reduceEqDiff, Nat.reduceMul, Int.reduceToNat, Int.reduceEq, Int.reduceLT, Int.reduceLE, Int.reduceAdd, Int.reduceSub, Int.reduceMul, reduceCtorEq, cond_true, cond_false, forall_eq', forall_eq, forall_const, implies_true, if_true, if_false, exists_eq_left', exists_eq', exists_eq, ne_eq, Tryz.f108, tb108_153, tb108_105, spStop_q, spStop_A, spStop_pre, spStop_post, spMxC_q, spMxC_A, spMxC_pre, spMxC_post, spFloor_q, spFloor_A, spFloor_pre, spFloor_post, List.take_length, ha, hlt])))
    all_goals
      repeat' (first | apply And.intro | (intro _) | omega | assumption | with_reducible rfl)
  
  all_goals (first | ((rw [hfst, if_pos ‹_›]); done) | ((rw [hfst, if_neg ‹_›]); done) | ((rw [stop_res hv hq hb1 hqt ‹_›]; exact hinv.2.1); done) | ((rw [List.length_drop]; omega); done) | ((rw [show (i + 1).toNat = i.toNat + 1 by omega, ← stop_ge hq hb1 ‹_›]; exact hinv.2.1); done) | ((have e := ‹l[(i + 1).toNat]? = some _›; rw [show (i + 1).toNat = i.toNat + 1 by omega, hb1] at e; cases e; omega); done) | ((rw [← hinv.2.1]; exact (stop_end ‹_› hlt2 hinv.1).symm); done) | (omega; done))
theorem sat_impl_stopColor : Sat Tryz.prog rt0 108 (wkIn spStop) := sat_in (sat_out sat_impl_stopColor_0)
def spAlong_A : Pt × Pt × Pt → List AV
  | (f, t, p) => [.agg (ptC f), .agg (ptC t), .agg (ptC p)]
def spAlong_pre : Pt × Pt × Pt → Prop
  | (f, t, p) => True
def spAlong_post : Pt × Pt × Pt → AV → List Box → Prop
  | (f, t, p), r, bs => r = I (if okAl f t p = true then alongP f t p else 0) ∧ bs = []
def spAlong : VE.Spec := famSpec spAlong_A d_pt_pt_pt spAlong_pre spAlong_post 0 true
theorem spAlong_q : spAlong.flat = true ∧ spAlong.mt = [] ∧ spAlong.shut = false ∧ spAlong.cost = 0 ∧ (∀ a i, spAlong.pre a i = (i = [] ∧ famPre d_pt_pt_pt spAlong_A spAlong_pre a)) ∧ ∀ a i r b, spAlong.post a i r b = (famPost d_pt_pt_pt spAlong_post a r b) := ⟨rfl, rfl, rfl, rfl, fun _ _ => rfl, fun _ _ _ _ => rfl⟩
def tb109 : Nat → Option VE.Spec := tabOf [(107, wkIn spVPt), (64, wkIn spRnd)]
theorem tb109_107 : tb109 107 = some (wkIn spVPt) := rfl
theorem tb109_64 : tb109 64 = some (wkIn spRnd) := rfl
theorem tb109_ok : TabOK Tryz.prog rt0 tb109 := (tabOf_cons (by kernel_rfl) sat_impl_Point_valid (tabOf_cons (by kernel_rfl) sat_impl_round tabOf_nil))
set_option maxHeartbeats 4000000 in
theorem sat_impl_AlongOf_0 : Sat Tryz.prog rt0 109 (wkOut spAlong) := by
  refine fn_sat hm ttok (tab := tb109) tb109_ok Tryz.func109 (c := Tryz.f109.body.getD .skip) (by kernel_rfl) (ts := [.tmp 6]) (by kernel_rfl) Tryz.ntmps109 (sq := fun _ => true) (by kernel_rfl) ?_
  intro args ins pk hpre0 hpk
  obtain ⟨rfl, hpre0⟩ := hpre0
  obtain ⟨⟨f, t, p⟩, rfl, hpre, hdec⟩ := famPre_ex hpre0
  clear hpre0 hdec
  try simp only [spAlong_pre] at hpre
  replace hpk : pk + 0 ≤ pickLimit := hpk
  refine ⟨Nat.le_of_ble_eq_true rfl, ?_⟩
  simp (config := { maxSteps := 1000000 }) only [go_sem, ↓ifP_true, ↓ifP_false, ↓ifP_not, Nat.reduceLT, Nat.reduceAdd, Nat.reduceBEq, Nat.reduceSub, Nat.reduceLeDiff, Nat.reduceEqDiff, Nat.reduceMul, Int.reduceToNat, Int.reduceEq, Int.reduceLT, Int.reduceLE, Int.reduceAdd, Int.reduceSub, Int.reduceMul, reduceCtorEq, cond_true, cond_false, forall_eq', forall_eq, forall_const, implies_true, if_true, if_false, exists_eq_left', exists_eq', exists_eq, ne_eq, Tryz.f109, tb109_107, tb109_64, spAlong_q, spAlong_A, spAlong_pre, spAlong_post, spVPt_q, spVPt_A, spVPt_pre, spVPt_post, spRnd_q, spRnd_A, spRnd_pre, spRnd_post]
  repeat' (first | apply And.intro | (intro _) | omega | assumption | with_reducible rfl)
  all_goals (first | ((have h9 := al_bd ‹vPt f = true› ‹vPt t = true› ‹vPt p = true›; omega); done) | ((have h9 := al_bd ‹vPt f = true› ‹vPt t = true› ‹vPt p = true›; have h8 := dist_pos ‹¬ f = t›; omega); done) | ((simp [okAl, alongP, *]; done); done) | ((simp only [okAl, alongP, *]; simp; omega); done) | ((have h9 : okAl f t p = false := (by simp [okAl, *]); rw [h9]; rfl); done) | (simp_all [okAl, alongP]; done))
theorem sat_impl_AlongOf : Sat Tryz.prog rt0 109 (wkIn spAlong) := sat_in (sat_out sat_impl_AlongOf_0)
def tb67 : Nat → Option VE.Spec := tabOf [(109, wkIn spAlong), (108, wkIn spStop)]
theorem tb67_109 : tb67 109 = some (wkIn spAlong) := rfl
theorem tb67_108 : tb67 108 = some (wkIn spStop) := rfl
theorem tb67_ok : TabOK Tryz.prog rt0 tb67 := (tabOf_cons (by kernel_rfl) sat_impl_AlongOf (tabOf_cons (by kernel_rfl) sat_impl_stopColor tabOf_nil))
set_option maxHeartbeats 4000000 in
theorem sat_impl_Paint_at_0 : Sat Tryz.prog rt0 67 (wkOut spPaint) := by
  refine fn_sat hm ttok (tab := tb67) tb67_ok Tryz.func67 (c := Tryz.f67.body.getD .skip) (by kernel_rfl) (ts := [.cell 6 29]) (by kernel_rfl) Tryz.ntmps67 (sq := fun _ => true) (by kernel_rfl) ?_
  intro args ins pk hpre0 hpk
  obtain ⟨rfl, hpre0⟩ := hpre0
  obtain ⟨⟨p, c, w⟩, rfl, hpre, hdec⟩ := famPre_ex hpre0
  clear hpre0 hdec
  try simp only [spPaint_pre] at hpre
  replace hpk : pk + 0 ≤ pickLimit := hpk
  refine ⟨Nat.le_of_ble_eq_true rfl, ?_⟩
  obtain ⟨hp1, hp2, hp3⟩ := vPnt_parts hpre.1
  have hp4 := pmid_ok hpre.2.1 hpre.2.2
  have hp5 : okAl p.f p.t (pmid c w) = true := by simp [okAl, *]
  have hp6 := alongP_bd p.f p.t (pmid c w)
  have hp7 : (⟨16 * c + 8, 16 * w + 8⟩ : Pt) = pmid c w := rfl
  simp (config := { maxSteps := 1000000 }) only [go_sem, ↓ifP_true, ↓ifP_false, ↓ifP_not, Nat.reduceLT, Nat.reduceAdd, Nat.reduceBEq, Nat.reduceSub, Nat.reduceLeDiff, Nat.reduceEqDiff, Nat.reduceMul, Int.reduceToNat, Int.reduceEq, Int.reduceLT, Int.reduceLE, Int.reduceAdd, Int.reduceSub, Int.reduceMul, reduceCtorEq, cond_true, cond_false, forall_eq', forall_eq, forall_const, implies_true, if_true, if_false, exists_eq_left', exists_eq', exists_eq, ne_eq, Tryz.f67, tb67_109, tb67_108, spPaint_q, spPaint_A, spPaint_pre, spPaint_post, spAlong_q, spAlong_A, spAlong_pre, spAlong_post, spStop_q, spStop_A, spStop_pre, spStop_post, hp7, hp5]
  repeat' (first | apply And.intro | (intro _) | omega | assumption | with_reducible rfl)
  all_goals (first | (rfl; done) | (assumption; done))
theorem sat_impl_Paint_at : Sat Tryz.prog rt0 67 (wkIn spPaint) := sat_in (sat_out sat_impl_Paint_at_0)
end Go.Proofs.YtkhplopcjkkejaaGreat
end
section
set_option maxRecDepth 100000
set_option linter.unusedSimpArgs false
set_option linter.unusedVariables false
namespace Go.Proofs.YtkhplopcjkkejaaGreat
open Go Go.VE
def tb142 : Nat → Option VE.Spec := tabOf [(175, wkIn spMxS)]
theorem tb142_175 : tb142 175 = some (wkIn spMxS) := rfl
theorem tb142_ok : TabOK Tryz.prog rt0 tb142 := (tabOf_cons (by kernel_rfl) sat_spec_mix tabOf_nil)
set_option maxHeartbeats 4000000 in
theorem sat_spec_stopColor_0 : Sat Tryz.prog rt0 142 (wkOut spStop) := by
  refine fn_sat hm ttok (tab := tb142) tb142_ok Tryz.func142 (c := Tryz.f142.body.getD .skip) (by kernel_rfl) (ts := [.cell 4 29]) (by kernel_rfl) Tryz.ntmps142 (sq := fun _ => true) (by kernel_rfl) ?_
  intro args ins pk hpre0 hpk
  obtain ⟨rfl, hpre0⟩ := hpre0
  obtain ⟨⟨l, t⟩, rfl, hpre, hdec⟩ := famPre_ex hpre0
  clear hpre0 hdec
  try simp only [spStop_pre] at hpre
  replace hpk : pk + 0 ≤ pickLimit := hpk
  refine ⟨Nat.le_of_ble_eq_true rfl, ?_⟩
  obtain ⟨hv, ht0, ht1⟩ := hpre
  obtain ⟨hv1, hv2, hv3⟩ := vStops_stp hv
  obtain ⟨a, ha⟩ : ∃ a, l[0]? = some a := ⟨_, List.getElem?_eq_getElem (by omega)⟩
  have hfst := stop_first (t := t) ha
  have hav := stop_at hv ha
  simp (config := { maxSteps := 1000000 }) only [go_sem, ↓ifP_true, ↓ifP_false, ↓ifP_not, Nat.reduceLT, Nat.reduceAdd, Nat.reduceBEq, Nat.reduceSub, Nat.reduceLeDiff, Nat.reduceEqDiff, Nat.reduceMul, Int.reduceToNat, Int.reduceEq, Int.reduceLT, Int.reduceLE, Int.reduceAdd, Int.reduceSub, Int.reduceMul, reduceCtorEq, cond_true, cond_false, forall_eq', forall_eq, forall_const, implies_true, if_true, if_false, exists_eq_left', exists_eq', exists_eq, ne_eq, Tryz.f142, tb142_175, spStop_q, spStop_A, spStop_pre, spStop_post, spMxS_q, spMxS_A, spMxS_pre, spMxS_post, ha]
  repeat' (first | apply And.intro | (intro _) | omega | assumption | with_reducible rfl)
  any_goals
    refine loopS (α := Int) false [2, 3, 5, 6, 7, 8, 9, 10, 11, 12, 13, 14, 15, 16, 17, 18, 19, 20, 21, 22, 23, 24, 25, 26, 27, 28, 29, 30, 31, 32, 33, 34, 35, 36, 37, 38, 39, 40, 41, 42, 43, 44, 45, 46, 47, 48, 49, 50, 51, 52, 53, 54, 55] (fun σ => []) (fun σ x => [(5, I x)]) (fun σ x => []) (fun i => 0) (fun σ => gI (σ.get 5)) (fun σ τ => []) (fun i => (1 ≤ i ∧ i ≤ l.length) ∧ stopAt l t (i - 1).toNat = stopC l t ∧ ∀ q, l[(i - 1).toNat]? = some q → q.w < t) (fun i => (l.length - i).toNat) ⟨by (simp (config := { maxSteps := 1000000 }) only [go_sem, ↓ifP_true, ↓ifP_false, ↓ifP_not, Nat.reduceLT, Nat.reduceAdd, Nat.reduceBEq, Nat.reduceSub, Nat.reduceLeDiff, Nat.reduceEqDiff, Nat.reduceMul, Int.reduceToNat, Int.reduceEq, Int.reduceLT, Int.reduceLE, Int.reduceAdd, Int.reduceSub, Int.reduceMul, reduceCtorEq, cond_true, cond_false, forall_eq', forall_eq, forall_const, implies_true, if_true, if_false, exists_eq_left', exists_eq', exists_eq, ne_eq, Tryz.f142, tb142_175, spStop_q, spStop_A, spStop_pre, spStop_post, spMxS_q, spMxS_A, spMxS_pre, spMxS_post, ha]; (repeat' (first | apply And.intro | (intro _) | omega | assumption | with_reducible rfl)); all_goals (first | (rw [hfst, if_neg ‹_›]))), ?_⟩
    rintro i hinv
    try dsimp only at hinv
    rcases elemAt l i (by omega) with ⟨hlt, b, hk⟩ | hlt
    all_goals (first | ((have hlt2 := of_eq_true hlt); (obtain ⟨q, hq⟩ : ∃ q, l[(i - 1).toNat]? = some q := ⟨_, List.getElem?_eq_getElem (by omega)⟩); (have hi1 : (i - 1).toNat + 1 = i.toNat := by omega); (have hb1 : l[(i - 1).toNat + 1]? = some b := by rw [hi1]; exact hk); (have hqt := hinv.2.2 q hq); (have hpr := (stop_pair hv hq hb1).1); (have hqv := stop_at hv hq); (have hbv := stop_at hv hb1); (have hge := @stop_ge l t _ q b hq hb1); (rw [hi1] at hge); (have hT : (256 * (t - q.w)).tdiv (b.w - q.w) = 256 * (t - q.w) / (b.w - q.w) := Int.tdiv_eq_ediv_of_nonneg (by omega)); all_goals (first | simp (config := { maxSteps := 1000000 }) only [go_sem, ↓ifP_true, ↓ifP_false, ↓ifP_not, Nat.reduceLT, Nat.reduceAdd, Nat.reduceBEq, Nat.reduceSub, Nat.reduceLeDiff, Nat.reduceEqDiff, Nat.reduceMul, Int.reduceToNat, Int.reduceEq, Int.reduceLT, Int.reduceLE, Int.reduceAdd, Int.reduceSub, Int.reduceMul, reduceCtorEq, cond_true, cond_false, forall_eq', forall_eq, forall_const, implies_true, if_true, if_false, exists_eq_left', exists_eq', exists_eq, ne_eq, Tryz.f142, tb142_175, spStop_q, spStop_A, spStop_pre, spStop_post, spMxS_q, spMxS_A, spMxS_pre, spMxS_post, ha, hlt, hk, hq] | simp (config := { maxSteps := 1000000 }) only [go_sem, ↓ifP_true, ↓ifP_false, ↓ifP_not, Nat.reduceLT, Nat.reduceAdd, Nat.reduceBEq, Nat.reduceSub, Nat.reduceLeDiff, Nat.reduceEqDiff, Nat.reduceMul, Int.reduceToNat, Int.reduceEq, Int.reduceLT, Int.reduceLE, Int.reduceAdd, Int.reduceSub, Int.reduceMul, reduceCtorEq, cond_true, cond_false, forall_eq', forall_eq, forall_const, implies_true, if_true, if_false, exists_eq_left', exists_eq', exists_eq, ne_eq, Tryz.f142, tb142_175, spStop_q, spStop_A, spStop_pre, spStop_post, spMxS_q, spMxS_A, spMxS_pre, spMxS_post, ha, hlt, hk])) | (have hlt2 := of_eq_false hlt; (first | simp (config := { maxSteps := 1000000 }) only [go_sem, ↓ifP_true, ↓ifP_false, ↓ifP_not, Nat.reduceLT, Nat.reduceAdd, Nat.reduceBEq, Nat.reduceSub, Nat.reduceLeDiff, Nat.reduceEqDiff, Nat.reduceMul, Int.reduceToNat, Int.reduceEq, Int.reduceLT, Int.reduceLE, Int.reduceAdd, Int.reduceSub, Int.reduceMul, reduceCtorEq, cond_true, cond_false, forall_eq', forall_eq, forall_const, implies_true, if_true, if_false, exists_eq_left', exists_eq', exists_eq, ne_eq, Tryz.f142, tb142_175, spStop_q, spStop_A, spStop_pre, spStop_post, spMxS_q, spMxS_A, spMxS_pre, spMxS_post, ha, hlt, hq] | simp (config := { maxSteps := 1000000 }) only [go_sem, ↓ifP_true, ↓ifP_false, ↓ifP_not, Nat.reduceLT, Nat.reduceAdd, Nat.reduceBEq, Nat.reduceSub, Nat.reduceLeDiff, Nat.reduceEqDiff, Nat.reduceMul, Int.reduceToNat, Int.reduceEq, Int.reduceLT, Int.reduceLE, Int.reduceAdd, Int.reduceSub, Int.reduceMul, reduceCtorEq, cond_true, cond_false, forall_eq', forall_eq, forall_const, implies_true, if_true, if_false, exists_eq_left', exists_eq', exists_eq, ne_eq, Tryz.f142, tb142_175, spStop_q, spStop_A, spStop_pre, spStop_post, spMxS_q, spMxS_A, spMxS_pre, spMxS_post, ha, hlt])))
    all_goals
      repeat' (first | apply And.intro | (intro _) | omega | assumption | with_reducible rfl)
  
  all_goals (first | ((rw [hfst, if_pos ‹_›]); done) | ((have h7 := part_t2 (Int.le_of_lt hqt) ‹t ≤ b.w› hpr; rw [hT]; omega); done) | (exact vCol_co hqv.2.1; done) | (exact vCol_co hbv.2.1; done) | ((rw [hT, ← stop_le hv hq hb1 (Int.le_of_lt hqt) ‹t ≤ b.w›]; exact hinv.2.1); done) | ((rw [show (i + 1 - 1).toNat = i.toNat by omega, ← hge (by omega)]; exact hinv.2.1); done) | ((have e := ‹l[(i + 1 - 1).toNat]? = some _›; rw [show (i + 1 - 1).toNat = i.toNat by omega, hk] at e; cases e; omega); done) | ((rw [← hinv.2.1]; exact (stop_end2 ‹_› hlt2 hinv.1).symm); done))
theorem sat_spec_stopColor : Sat Tryz.prog rt0 142 (wkIn spStop) := sat_in (sat_out sat_spec_stopColor_0)
def spAlS_A : Pt × Pt × Int × Int → List AV
  | (f, t, x, y) => [.agg (ptC f), .agg (ptC t), I x, I y]
def spAlS_pre : Pt × Pt × Int × Int → Prop
  | (f, t, x, y) => vPt f = true ∧ vPt t = true ∧ vPt ⟨x, y⟩ = true
def spAlS_post : Pt × Pt × Int × Int → AV → List Box → Prop
  | (f, t, x, y), r, bs => r = I (alongP f t ⟨x, y⟩) ∧ bs = []
def spAlS : VE.Spec := famSpec spAlS_A d_pt_pt_i_i spAlS_pre spAlS_post 0 true
theorem spAlS_q : spAlS.flat = true ∧ spAlS.mt = [] ∧ spAlS.shut = false ∧ spAlS.cost = 0 ∧ (∀ a i, spAlS.pre a i = (i = [] ∧ famPre d_pt_pt_i_i spAlS_A spAlS_pre a)) ∧ ∀ a i r b, spAlS.post a i r b = (famPost d_pt_pt_i_i spAlS_post a r b) := ⟨rfl, rfl, rfl, rfl, fun _ _ => rfl, fun _ _ _ _ => rfl⟩
def tb143 : Nat → Option VE.Spec := tabOf [(141, wkIn spRnd)]
theorem tb143_141 : tb143 141 = some (wkIn spRnd) := rfl
theorem tb143_ok : TabOK Tryz.prog rt0 tb143 := (tabOf_cons (by kernel_rfl) sat_spec_nearest tabOf_nil)
set_option maxHeartbeats 4000000 in
theorem sat_spec_along_0 : Sat Tryz.prog rt0 143 (wkOut spAlS) := by
  refine fn_sat hm ttok (tab := tb143) tb143_ok Tryz.func143 (c := Tryz.f143.body.getD .skip) (by kernel_rfl) (ts := [.tmp 8]) (by kernel_rfl) Tryz.ntmps143 (sq := fun _ => true) (by kernel_rfl) ?_
  intro args ins pk hpre0 hpk
  obtain ⟨rfl, hpre0⟩ := hpre0
  obtain ⟨⟨f, t, x, y⟩, rfl, hpre, hdec⟩ := famPre_ex hpre0
  clear hpre0 hdec
  try simp only [spAlS_pre] at hpre
  replace hpk : pk + 0 ≤ pickLimit := hpk
  refine ⟨Nat.le_of_ble_eq_true rfl, ?_⟩
  have h9 := al_bd hpre.1 hpre.2.1 hpre.2.2
  have h8 := @dist0 f t
  have h7 := @dist_pos f t
  dsimp only at h9
  simp (config := { maxSteps := 1000000 }) only [go_sem, ↓ifP_true, ↓ifP_false, ↓ifP_not, Nat.reduceLT, Nat.reduceAdd, Nat.reduceBEq, Nat.reduceSub, Nat.reduceLeDiff, Nat.reduceEqDiff, Nat.reduceMul, Int.reduceToNat, Int.reduceEq, Int.reduceLT, Int.reduceLE, Int.reduceAdd, Int.reduceSub, Int.reduceMul, reduceCtorEq, cond_true, cond_false, forall_eq', forall_eq, forall_const, implies_true, if_true, if_false, exists_eq_left', exists_eq', exists_eq, ne_eq, Tryz.f143, tb143_141, spAlS_q, spAlS_A, spAlS_pre, spAlS_post, spRnd_q, spRnd_A, spRnd_pre, spRnd_post]
  repeat' (first | apply And.intro | (intro _) | omega | assumption | with_reducible rfl)
  all_goals (first | (omega; done) | ((rw [alongP, if_pos (h8.1 ‹_›)]); done) | ((have h6 : ¬ f = t := fun e => ‹¬ _ = (0 : Int)› (h8.2 e); have h5 := h7 h6; omega); done) | ((have h6 : ¬ f = t := fun e => ‹¬ _ = (0 : Int)› (h8.2 e); rw [alongP, if_neg h6]; dsimp only; omega); done))
theorem sat_spec_along : Sat Tryz.prog rt0 143 (wkIn spAlS) := sat_in (sat_out sat_spec_along_0)
def tb96 : Nat → Option VE.Spec := tabOf [(143, wkIn spAlS), (142, wkIn spStop)]
theorem tb96_143 : tb96 143 = some (wkIn spAlS) := rfl
theorem tb96_142 : tb96 142 = some (wkIn spStop) := rfl
theorem tb96_ok : TabOK Tryz.prog rt0 tb96 := (tabOf_cons (by kernel_rfl) sat_spec_along (tabOf_cons (by kernel_rfl) sat_spec_stopColor tabOf_nil))
set_option maxHeartbeats 4000000 in
theorem sat_spec_paintAt_0 : Sat Tryz.prog rt0 96 (wkOut spPaint) := by
  refine fn_sat hm ttok (tab := tb96) tb96_ok Tryz.func96 (c := Tryz.f96.body.getD .skip) (by kernel_rfl) (ts := [.cell 6 29]) (by kernel_rfl) Tryz.ntmps96 (sq := fun _ => true) (by kernel_rfl) ?_
  intro args ins pk hpre0 hpk
  obtain ⟨rfl, hpre0⟩ := hpre0
  obtain ⟨⟨p, c, w⟩, rfl, hpre, hdec⟩ := famPre_ex hpre0
  clear hpre0 hdec
  try simp only [spPaint_pre] at hpre
  replace hpk : pk + 0 ≤ pickLimit := hpk
  refine ⟨Nat.le_of_ble_eq_true rfl, ?_⟩
  obtain ⟨hp1, hp2, hp3⟩ := vPnt_parts hpre.1
  have hp4 := pmid_ok hpre.2.1 hpre.2.2
  have hp6 := alongP_bd p.f p.t (pmid c w)
  have hp7 : (⟨16 * c + 8, 16 * w + 8⟩ : Pt) = pmid c w := rfl
  simp (config := { maxSteps := 1000000 }) only [go_sem, ↓ifP_true, ↓ifP_false, ↓ifP_not, Nat.reduceLT, Nat.reduceAdd, Nat.reduceBEq, Nat.reduceSub, Nat.reduceLeDiff, Nat.reduceEqDiff, Nat.reduceMul, Int.reduceToNat, Int.reduceEq, Int.reduceLT, Int.reduceLE, Int.reduceAdd, Int.reduceSub, Int.reduceMul, reduceCtorEq, cond_true, cond_false, forall_eq', forall_eq, forall_const, implies_true, if_true, if_false, exists_eq_left', exists_eq', exists_eq, ne_eq, Tryz.f96, tb96_143, tb96_142, spPaint_q, spPaint_A, spPaint_pre, spPaint_post, spAlS_q, spAlS_A, spAlS_pre, spAlS_post, spStop_q, spStop_A, spStop_pre, spStop_post, hp7]
  repeat' (first | apply And.intro | (intro _) | omega | assumption | with_reducible rfl)
  all_goals (first | (rfl; done) | (assumption; done))
theorem sat_spec_paintAt : Sat Tryz.prog rt0 96 (wkIn spPaint) := sat_in (sat_out sat_spec_paintAt_0)
end Go.Proofs.YtkhplopcjkkejaaGreat
end
section
set_option maxRecDepth 100000
set_option linter.unusedSimpArgs false
set_option linter.unusedVariables false
namespace Go.Proofs.YtkhplopcjkkejaaGreat
open Go Go.VE
theorem pix_res {f : Fil} {o : Colr} {c w : Int} (hf : vFil f = true) (ho : vCol o = true) : (if okOv (if okCv (paintP f.pn c w) (cov (ringsOf f.p) f.rl c w) = true then coverC (paintP f.pn c w) (cov (ringsOf f.p) f.rl c w) else ⟨0, 0, 0, 0⟩) o = true then overC (if okCv (paintP f.pn c w) (cov (ringsOf f.p) f.rl c w) = true then coverC (paintP f.pn c w) (cov (ringsOf f.p) f.rl c w) else ⟨0, 0, 0, 0⟩) o else ⟨0, 0, 0, 0⟩) = pix1 c w o f := by
  have hp := paintP_ok (vFil_paint hf).2.2.2 c w
  have hc := cov16 (ringsOf f.p) f.rl c w
  have h1 : okCv (paintP f.pn c w) (cov (ringsOf f.p) f.rl c w) = true := by simp only [okCv, hp, decide_eq_true hc, Bool.and_self]
  rw [if_pos h1]
  have h2 : okOv (coverC (paintP f.pn c w) (cov (ringsOf f.p) f.rl c w)) o = true := by simp only [okOv, coverC_ok hp hc, ho, Bool.and_self]
  rw [if_pos h2]; rfl
def tb48 : Nat → Option VE.Spec := tabOf [(67, wkIn spPaint), (61, wkIn spRings), (59, wkIn spCover), (21, wkIn spCovC), (20, wkIn spOvC)]
theorem tb48_67 : tb48 67 = some (wkIn spPaint) := rfl
theorem tb48_61 : tb48 61 = some (wkIn spRings) := rfl
theorem tb48_59 : tb48 59 = some (wkIn spCover) := rfl
theorem tb48_21 : tb48 21 = some (wkIn spCovC) := rfl
theorem tb48_20 : tb48 20 = some (wkIn spOvC) := rfl
theorem tb48_ok : TabOK Tryz.prog rt0 tb48 := (tabOf_cons (by kernel_rfl) sat_impl_Paint_at (tabOf_cons (by kernel_rfl) sat_impl_rings (tabOf_cons (by kernel_rfl) sat_impl_cover (tabOf_cons (by kernel_rfl) sat_impl_CoverColor (tabOf_cons (by kernel_rfl) sat_impl_OverColor tabOf_nil)))))
set_option maxHeartbeats 4000000 in
theorem sat_impl_Scene_pixel_0 : Sat Tryz.prog rt0 48 (wkOut spPix) := by
  refine fn_sat hm ttok (tab := tb48) tb48_ok Tryz.func48 (c := Tryz.f48.body.getD .skip) (by kernel_rfl) (ts := [.cell 6 29]) (by kernel_rfl) Tryz.ntmps48 (sq := fun id => !(id == 5)) (by kernel_rfl) ?_
  intro args ins pk hpre0 hpk
  obtain ⟨rfl, hpre0⟩ := hpre0
  obtain ⟨⟨s, c, w⟩, rfl, hpre, hdec⟩ := famPre_ex hpre0
  clear hpre0 hdec
  try simp only [spPix_pre] at hpre
  replace hpk : pk + 0 ≤ pickLimit := hpk
  refine ⟨Nat.le_of_ble_eq_true rfl, ?_⟩
  obtain ⟨⟨hfs, hal⟩, hc, hw⟩ := hpre
  have hfl := hfs.len
  simp (config := { maxSteps := 1000000 }) only [go_sem, ↓ifP_true, ↓ifP_false, ↓ifP_not, Nat.reduceLT, Nat.reduceAdd, Nat.reduceBEq, Nat.reduceSub, Nat.reduceLeDiff, Nat.reduceEqDiff, Nat.reduceMul, Int.reduceToNat, Int.reduceEq, Int.reduceLT, Int.reduceLE, Int.reduceAdd, Int.reduceSub, Int.reduceMul, reduceCtorEq, cond_true, cond_false, forall_eq', forall_eq, forall_const, implies_true, if_true, if_false, exists_eq_left', exists_eq', exists_eq, ne_eq, Tryz.f48, tb48_67, tb48_61, tb48_59, tb48_21, tb48_20, spPix_q, spPix_A, spPix_pre, spPix_post, spPaint_q, spPaint_A, spPaint_pre, spPaint_post, spRings_q, spRings_A, spRings_pre, spRings_post, spCover_q, spCover_A, spCover_pre, spCover_post, spCovC_q, spCovC_A, spCovC_pre, spCovC_post, spOvC_q, spOvC_A, spOvC_pre, spOvC_post]
  repeat' (first | apply And.intro | (intro _) | omega | assumption | with_reducible rfl)
  all_goals try (refine drawI (VE.Plan.first 0 (VE.Plan.first 1 (VE.Plan.first 2 (VE.Plan.first 3 (VE.Plan.first 5 (VE.Plan.first 6 (VE.Plan.first 8 (VE.Plan.first 9 (VE.Plan.first 10 (VE.Plan.first 11 (VE.Plan.first 14 (VE.Plan.alt 4 (VE.Plan.alt 7 (VE.Plan.alt 12 (VE.Plan.alt 13 (VE.Plan.alt 15 (VE.Plan.alt 16 VE.Plan.nil VE.Plan.nil) VE.Plan.nil) VE.Plan.nil) VE.Plan.nil) VE.Plan.nil) VE.Plan.nil)))))))))))) (by decide +kernel) ?_; simp (config := { maxSteps := 1000000 }) only [go_sem, ↓ifP_true, ↓ifP_false, ↓ifP_not, Nat.reduceLT, Nat.reduceAdd, Nat.reduceBEq, Nat.reduceSub, Nat.reduceLeDiff, Nat.reduceEqDiff, Nat.reduceMul, Int.reduceToNat, Int.reduceEq, Int.reduceLT, Int.reduceLE, Int.reduceAdd, Int.reduceSub, Int.reduceMul, reduceCtorEq, cond_true, cond_false, forall_eq', forall_eq, forall_const, implies_true, if_true, if_false, exists_eq_left', exists_eq', exists_eq, ne_eq, planW, stepW, Go.VE.stepT, Go.VE.clearO, Tryz.f48, tb48_67, tb48_61, tb48_59, tb48_21, tb48_20, spPix_q, spPix_A, spPix_pre, spPix_post, spPaint_q, spPaint_A, spPaint_pre, spPaint_post, spRings_q, spRings_A, spRings_pre, spRings_post, spCover_q, spCover_A, spCover_pre, spCover_post, spCovC_q, spCovC_A, spCovC_pre, spCovC_post, spOvC_q, spOvC_A, spOvC_pre, spOvC_post]; repeat' (first | apply And.intro | (intro _) | omega | assumption | with_reducible rfl))
  any_goals
    refine loopS (α := Colr × Int) false [0, 3, 4, 5, 8, 9, 10, 11, 14, 15, 16, 17, 18, 19, 20, 21, 22, 23, 24, 25, 26, 27, 28, 29, 30, 31, 32, 33, 34] (fun σ => [gId (σ.get 7)]) (fun σ x => [(14, I x.2)]) (fun σ x => [(gId (σ.get 7), some ⟨[coC x.1], 4, 29, false, false⟩)]) (fun (o, i) => 0) (fun σ => (gA coCd default (.agg ((boxN σ (gId (σ.get 7))).es.headD [])), gI (σ.get 14))) (fun σ τ => []) (fun (o, i) => (0 ≤ i ∧ i ≤ s.fs.length) ∧ o = pixF (s.fs.take i.toNat) c w) (fun (o, i) => (s.fs.length - i).toNat) ⟨by (simp (config := { maxSteps := 1000000 }) only [go_sem, ↓ifP_true, ↓ifP_false, ↓ifP_not, Nat.reduceLT, Nat.reduceAdd, Nat.reduceBEq, Nat.reduceSub, Nat.reduceLeDiff, Nat.reduceEqDiff, Nat.reduceMul, Int.reduceToNat, Int.reduceEq, Int.reduceLT, Int.reduceLE, Int.reduceAdd, Int.reduceSub, Int.reduceMul, reduceCtorEq, cond_true, cond_false, forall_eq', forall_eq, forall_const, implies_true, if_true, if_false, exists_eq_left', exists_eq', exists_eq, ne_eq, Tryz.f48, tb48_67, tb48_61, tb48_59, tb48_21, tb48_20, spPix_q, spPix_A, spPix_pre, spPix_post, spPaint_q, spPaint_A, spPaint_pre, spPaint_post, spRings_q, spRings_A, spRings_pre, spRings_post, spCover_q, spCover_A, spCover_pre, spCover_post, spCovC_q, spCovC_A, spCovC_pre, spCovC_post, spOvC_q, spOvC_A, spOvC_pre, spOvC_post]; (repeat' (first | apply And.intro | (intro _) | omega | assumption | with_reducible rfl)); all_goals (first | rfl)), ?_⟩
    rintro ⟨o, i⟩ hinv
    try dsimp only at hinv
    rcases elemAt s.fs i (by omega) with ⟨hlt, f, hk⟩ | hlt
    all_goals (first | ((have hlt2 := of_eq_true hlt); (have hf := okFs_at hfs hk); (have hvf := List.all_eq_true.1 hal f (List.mem_of_getElem? hk)); (have hvp := vFil_paint hvf); (have hpo := paintP_ok hvp.2.2.2 c w); (have hcv := cov16 (ringsOf f.p) f.rl c w); (have hco := coverC_ok hpo hcv); (have hpi := pixF_ok (c := c) (w := w) (all_take2 hal i.toNat)); (have hpi2 : vCol o = true := by rw [hinv.2]; exact hpi); all_goals simp (config := { maxSteps := 1000000 }) only [go_sem, ↓ifP_true, ↓ifP_false, ↓ifP_not, Nat.reduceLT, Nat.reduceAdd, Nat.reduceBEq, Nat.reduceSub, Nat.reduceLeDiff, Nat.reduceEqDiff, Nat.reduceMul, Int.reduceToNat, Int.reduceEq, Int.reduceLT, Int.reduceLE, Int.reduceAdd, Int.reduceSub, Int.reduceMul, reduceCtorEq, cond_true, cond_false, forall_eq', forall_eq, forall_const, implies_true, if_true, if_false, exists_eq_left', exists_eq', exists_eq, ne_eq, Tryz.f48, tb48_67, tb48_61, tb48_59, tb48_21, tb48_20, spPix_q, spPix_A, spPix_pre, spPix_post, spPaint_q, spPaint_A, spPaint_pre, spPaint_post, spRings_q, spRings_A, spRings_pre, spRings_post, spCover_q, spCover_A, spCover_pre, spCover_post, spCovC_q, spCovC_A, spCovC_pre, spCovC_post, spOvC_q, spOvC_A, spOvC_pre, spOvC_post, hlt, hk]) | (have hlt2 := of_eq_false hlt; simp (config := { maxSteps := 1000000 }) only [go_sem, ↓ifP_true, ↓ifP_false, ↓ifP_not, Nat.reduceLT, Nat.reduceAdd, Nat.reduceBEq, Nat.reduceSub, Nat.reduceLeDiff, Nat.reduceEqDiff, Nat.reduceMul, Int.reduceToNat, Int.reduceEq, Int.reduceLT, Int.reduceLE, Int.reduceAdd, Int.reduceSub, Int.reduceMul, reduceCtorEq, cond_true, cond_false, forall_eq', forall_eq, forall_const, implies_true, if_true, if_false, exists_eq_left', exists_eq', exists_eq, ne_eq, Tryz.f48, tb48_67, tb48_61, tb48_59, tb48_21, tb48_20, spPix_q, spPix_A, spPix_pre, spPix_post, spPaint_q, spPaint_A, spPaint_pre, spPaint_post, spRings_q, spRings_A, spRings_pre, spRings_post, spCover_q, spCover_A, spCover_pre, spCover_post, spCovC_q, spCovC_A, spCovC_pre, spCovC_post, spOvC_q, spOvC_A, spOvC_pre, spOvC_post, hlt]))
    all_goals
      repeat' (first | apply And.intro | (intro _) | omega | assumption | with_reducible rfl)
    all_goals try (refine drawI (VE.Plan.first 0 (VE.Plan.first 1 (VE.Plan.first 2 (VE.Plan.first 3 (VE.Plan.first 5 (VE.Plan.first 6 (VE.Plan.first 8 (VE.Plan.first 9 (VE.Plan.first 10 (VE.Plan.first 11 (VE.Plan.first 14 (VE.Plan.alt 4 (VE.Plan.alt 7 (VE.Plan.alt 12 (VE.Plan.alt 13 (VE.Plan.alt 15 (VE.Plan.alt 16 VE.Plan.nil VE.Plan.nil) VE.Plan.nil) VE.Plan.nil) VE.Plan.nil) VE.Plan.nil) VE.Plan.nil)))))))))))) (by decide +kernel) ?_; (first | simp (config := { maxSteps := 1000000 }) only [go_sem, ↓ifP_true, ↓ifP_false, ↓ifP_not, Nat.reduceLT, Nat.reduceAdd, Nat.reduceBEq, Nat.reduceSub, Nat.reduceLeDiff, Nat.reduceEqDiff, Nat.reduceMul, Int.reduceToNat, Int.reduceEq, Int.reduceLT, Int.reduceLE, Int.reduceAdd, Int.reduceSub, Int.reduceMul, reduceCtorEq, cond_true, cond_false, forall_eq', forall_eq, forall_const, implies_true, if_true, if_false, exists_eq_left', exists_eq', exists_eq, ne_eq, planW, stepW, Go.VE.stepT, Go.VE.clearO, Tryz.f48, tb48_67, tb48_61, tb48_59, tb48_21, tb48_20, spPix_q, spPix_A, spPix_pre, spPix_post, spPaint_q, spPaint_A, spPaint_pre, spPaint_post, spRings_q, spRings_A, spRings_pre, spRings_post, spCover_q, spCover_A, spCover_pre, spCover_post, spCovC_q, spCovC_A, spCovC_pre, spCovC_post, spOvC_q, spOvC_A, spOvC_pre, spOvC_post, hlt, hk] | simp (config := { maxSteps := 1000000 }) only [go_sem, ↓ifP_true, ↓ifP_false, ↓ifP_not, Nat.reduceLT, Nat.reduceAdd, Nat.reduceBEq, Nat.reduceSub, Nat.reduceLeDiff, Nat.reduceEqDiff, Nat.reduceMul, Int.reduceToNat, Int.reduceEq, Int.reduceLT, Int.reduceLE, Int.reduceAdd, Int.reduceSub, Int.reduceMul, reduceCtorEq, cond_true, cond_false, forall_eq', forall_eq, forall_const, implies_true, if_true, if_false, exists_eq_left', exists_eq', exists_eq, ne_eq, planW, stepW, Go.VE.stepT, Go.VE.clearO, Tryz.f48, tb48_67, tb48_61, tb48_59, tb48_21, tb48_20, spPix_q, spPix_A, spPix_pre, spPix_post, spPaint_q, spPaint_A, spPaint_pre, spPaint_post, spRings_q, spRings_A, spRings_pre, spRings_post, spCover_q, spCover_A, spCover_pre, spCover_post, spCovC_q, spCovC_A, spCovC_pre, spCovC_post, spOvC_q, spOvC_A, spOvC_pre, spOvC_post]); repeat' (first | apply And.intro | (intro _) | omega | assumption | with_reducible rfl))
  
  all_goals (first | (exact hvp.2.2.2; done) | (exact hvp.1; done) | (exact hvp.2.1; done) | ((rw [pix_res hvf hpi2, pix_step hk hinv.1.1, ← hinv.2]); done) | ((rw [hinv.2, takeA (by omega)]); done))
theorem sat_impl_Scene_pixel : Sat Tryz.prog rt0 48 (wkIn spPix) := sat_in (sat_out sat_impl_Scene_pixel_0)
theorem szd_iff {w h : Int} : szd w h = true ↔ (1 ≤ w ∧ w ≤ 12) ∧ 1 ≤ h ∧ h ≤ 12 := by simp only [szd, decide_eq_true_eq]
def spHasP_A : Scn × Int × Int → List AV
  | (s, c, w) => [.agg (scC s), I c, I w]
def spHasP_pre : Scn × Int × Int → Prop
  | (s, c, w) => szd s.w s.h = true
def spHasP_post : Scn × Int × Int → AV → List Box → Prop
  | (s, c, w), r, bs => r = B (decide (0 ≤ c ∧ c ≤ s.w - 1) && decide (0 ≤ w ∧ w ≤ s.h - 1)) ∧ bs = []
def spHasP : VE.Spec := famSpec spHasP_A d_sc_i_i spHasP_pre spHasP_post 0 true
theorem spHasP_q : spHasP.flat = true ∧ spHasP.mt = [] ∧ spHasP.shut = false ∧ spHasP.cost = 0 ∧ (∀ a i, spHasP.pre a i = (i = [] ∧ famPre d_sc_i_i spHasP_A spHasP_pre a)) ∧ ∀ a i r b, spHasP.post a i r b = (famPost d_sc_i_i spHasP_post a r b) := ⟨rfl, rfl, rfl, rfl, fun _ _ => rfl, fun _ _ _ _ => rfl⟩
def tb47 : Nat → Option VE.Spec := tabOf [(58, wkIn spIn)]
theorem tb47_58 : tb47 58 = some (wkIn spIn) := rfl
theorem tb47_ok : TabOK Tryz.prog rt0 tb47 := (tabOf_cons (by kernel_rfl) sat_impl_in tabOf_nil)
set_option maxHeartbeats 4000000 in
theorem sat_impl_Scene_has_0 : Sat Tryz.prog rt0 47 (wkOut spHasP) := by
  refine fn_sat hm ttok (tab := tb47) tb47_ok Tryz.func47 (c := Tryz.f47.body.getD .skip) (by kernel_rfl) (ts := [.tmp 6]) (by kernel_rfl) Tryz.ntmps47 (sq := fun _ => true) (by kernel_rfl) ?_
  intro args ins pk hpre0 hpk
  obtain ⟨rfl, hpre0⟩ := hpre0
  obtain ⟨⟨s, c, w⟩, rfl, hpre, hdec⟩ := famPre_ex hpre0
  clear hpre0 hdec
  try simp only [spHasP_pre] at hpre
  replace hpk : pk + 0 ≤ pickLimit := hpk
  refine ⟨Nat.le_of_ble_eq_true rfl, ?_⟩
  have hz := szd_iff.1 hpre
  simp (config := { maxSteps := 1000000 }) only [go_sem, ↓ifP_true, ↓ifP_false, ↓ifP_not, Nat.reduceLT, Nat.reduceAdd, Nat.reduceBEq, Nat.reduceSub, Nat.reduceLeDiff, Nat.reduceEqDiff, Nat.reduceMul, Int.reduceToNat, Int.reduceEq, Int.reduceLT, Int.reduceLE, Int.reduceAdd, Int.reduceSub, Int.reduceMul, reduceCtorEq, cond_true, cond_false, forall_eq', forall_eq, forall_const, implies_true, if_true, if_false, exists_eq_left', exists_eq', exists_eq, ne_eq, Tryz.f47, tb47_58, spHasP_q, spHasP_A, spHasP_pre, spHasP_post, spIn_q, spIn_A, spIn_pre, spIn_post]
  repeat' (first | apply And.intro | (intro _) | omega | assumption | with_reducible rfl)
  all_goals (first | (simp [*]; done) | (simp_all; done) | (grind; done))
theorem sat_impl_Scene_has : Sat Tryz.prog rt0 47 (wkIn spHasP) := sat_in (sat_out sat_impl_Scene_has_0)
def tb15 : Nat → Option VE.Spec := tabOf [(17, wkIn spVScn), (47, wkIn spHasP), (48, wkIn spPix)]
theorem tb15_17 : tb15 17 = some (wkIn spVScn) := rfl
theorem tb15_47 : tb15 47 = some (wkIn spHasP) := rfl
theorem tb15_48 : tb15 48 = some (wkIn spPix) := rfl
theorem tb15_ok : TabOK Tryz.prog rt0 tb15 := (tabOf_cons (by kernel_rfl) sat_impl_ValidScene (tabOf_cons (by kernel_rfl) sat_impl_Scene_has (tabOf_cons (by kernel_rfl) sat_impl_Scene_pixel tabOf_nil)))
set_option maxHeartbeats 4000000 in
theorem sat_impl_PixelOf_0 : Sat Tryz.prog rt0 15 (wkOut spPixOf) := by
  refine fn_sat hm ttok (tab := tb15) tb15_ok Tryz.func15 (c := Tryz.f15.body.getD .skip) (by kernel_rfl) (ts := [.cell 6 29]) (by kernel_rfl) Tryz.ntmps15 (sq := fun _ => true) (by kernel_rfl) ?_
  intro args ins pk hpre0 hpk
  obtain ⟨rfl, hpre0⟩ := hpre0
  obtain ⟨⟨s, c, w⟩, rfl, hpre, hdec⟩ := famPre_ex hpre0
  clear hpre0 hdec
  try simp only [spPixOf_pre] at hpre
  replace hpk : pk + 0 ≤ pickLimit := hpk
  refine ⟨Nat.le_of_ble_eq_true rfl, ?_⟩
  simp (config := { maxSteps := 1000000 }) only [go_sem, ↓ifP_true, ↓ifP_false, ↓ifP_not, Nat.reduceLT, Nat.reduceAdd, Nat.reduceBEq, Nat.reduceSub, Nat.reduceLeDiff, Nat.reduceEqDiff, Nat.reduceMul, Int.reduceToNat, Int.reduceEq, Int.reduceLT, Int.reduceLE, Int.reduceAdd, Int.reduceSub, Int.reduceMul, reduceCtorEq, cond_true, cond_false, forall_eq', forall_eq, forall_const, implies_true, if_true, if_false, exists_eq_left', exists_eq', exists_eq, ne_eq, Tryz.f15, tb15_17, tb15_47, tb15_48, spPixOf_q, spPixOf_A, spPixOf_pre, spPixOf_post, spVScn_q, spVScn_A, spVScn_pre, spVScn_post, spHasP_q, spHasP_A, spHasP_pre, spHasP_post, spPix_q, spPix_A, spPix_pre, spPix_post]
  repeat' (first | apply And.intro | (intro _) | omega | assumption | with_reducible rfl)
  all_goals (first | (exact hpre; done) | (exact (vScn_parts ‹_›).1; done) | (exact (vScn_parts ‹_›).2.2; done) | ((have hz := szd_iff.1 (vScn_parts ‹vScn s = true›).1; simp only [Bool.and_eq_true, decide_eq_true_eq] at *; omega); done) | ((have h8 := ‹(decide _ && decide _) = true›; rw [pixV, okPix_eq, ‹vScn s = true›, h8]; rfl); done) | ((have h8 := ‹(decide _ && decide _) = false›; rw [pixV, okPix_eq, ‹vScn s = true›, h8]; rfl); done) | ((rw [pixV, okPix_eq, ‹vScn s = false›]; rfl); done))
theorem sat_impl_PixelOf : Sat Tryz.prog rt0 15 (wkIn spPixOf) := sat_in (sat_out sat_impl_PixelOf_0)
end Go.Proofs.YtkhplopcjkkejaaGreat
end
section
set_option maxRecDepth 100000
set_option linter.unusedSimpArgs false
set_option linter.unusedVariables false
namespace Go.Proofs.YtkhplopcjkkejaaGreat
open Go Go.VE
def tb51 : Nat → Option VE.Spec := tabOf [(96, wkIn spPaint), (93, wkIn spRings), (92, wkIn spCover), (95, wkIn spScal), (94, wkIn spOvS)]
theorem tb51_96 : tb51 96 = some (wkIn spPaint) := rfl
theorem tb51_93 : tb51 93 = some (wkIn spRings) := rfl
theorem tb51_92 : tb51 92 = some (wkIn spCover) := rfl
theorem tb51_95 : tb51 95 = some (wkIn spScal) := rfl
theorem tb51_94 : tb51 94 = some (wkIn spOvS) := rfl
theorem tb51_ok : TabOK Tryz.prog rt0 tb51 := (tabOf_cons (by kernel_rfl) sat_spec_paintAt (tabOf_cons (by kernel_rfl) sat_spec_rings (tabOf_cons (by kernel_rfl) sat_spec_cover (tabOf_cons (by kernel_rfl) sat_spec_scaled (tabOf_cons (by kernel_rfl) sat_spec_over tabOf_nil)))))
set_option maxHeartbeats 4000000 in
theorem sat_spec_pixel_0 : Sat Tryz.prog rt0 51 (wkOut spPix) := by
  refine fn_sat hm ttok (tab := tb51) tb51_ok Tryz.func51 (c := Tryz.f51.body.getD .skip) (by kernel_rfl) (ts := [.cell 6 29]) (by kernel_rfl) Tryz.ntmps51 (sq := fun id => !(id == 6 || id == 7)) (by kernel_rfl) ?_
  intro args ins pk hpre0 hpk
  obtain ⟨rfl, hpre0⟩ := hpre0
  obtain ⟨⟨s, c, w⟩, rfl, hpre, hdec⟩ := famPre_ex hpre0
  clear hpre0 hdec
  try simp only [spPix_pre] at hpre
  replace hpk : pk + 0 ≤ pickLimit := hpk
  refine ⟨Nat.le_of_ble_eq_true rfl, ?_⟩
  obtain ⟨⟨hfs, hal⟩, hc, hw⟩ := hpre
  have hfl := hfs.len
  simp (config := { maxSteps := 1000000 }) only [go_sem, ↓ifP_true, ↓ifP_false, ↓ifP_not, Nat.reduceLT, Nat.reduceAdd, Nat.reduceBEq, Nat.reduceSub, Nat.reduceLeDiff, Nat.reduceEqDiff, Nat.reduceMul, Int.reduceToNat, Int.reduceEq, Int.reduceLT, Int.reduceLE, Int.reduceAdd, Int.reduceSub, Int.reduceMul, reduceCtorEq, cond_true, cond_false, forall_eq', forall_eq, forall_const, implies_true, if_true, if_false, exists_eq_left', exists_eq', exists_eq, ne_eq, Tryz.f51, tb51_96, tb51_93, tb51_92, tb51_95, tb51_94, spPix_q, spPix_A, spPix_pre, spPix_post, spPaint_q, spPaint_A, spPaint_pre, spPaint_post, spRings_q, spRings_A, spRings_pre, spRings_post, spCover_q, spCover_A, spCover_pre, spCover_post, spScal_q, spScal_A, spScal_pre, spScal_post, spOvS_q, spOvS_A, spOvS_pre, spOvS_post]
  repeat' (first | apply And.intro | (intro _) | omega | assumption | with_reducible rfl)
  all_goals try (refine drawI (VE.Plan.first 0 (VE.Plan.first 1 (VE.Plan.first 3 (VE.Plan.first 4 (VE.Plan.first 5 (VE.Plan.first 6 (VE.Plan.alt 2 (VE.Plan.alt 7 (VE.Plan.alt 8 VE.Plan.nil VE.Plan.nil) VE.Plan.nil) VE.Plan.nil))))))) (by decide +kernel) ?_; simp (config := { maxSteps := 1000000 }) only [go_sem, ↓ifP_true, ↓ifP_false, ↓ifP_not, Nat.reduceLT, Nat.reduceAdd, Nat.reduceBEq, Nat.reduceSub, Nat.reduceLeDiff, Nat.reduceEqDiff, Nat.reduceMul, Int.reduceToNat, Int.reduceEq, Int.reduceLT, Int.reduceLE, Int.reduceAdd, Int.reduceSub, Int.reduceMul, reduceCtorEq, cond_true, cond_false, forall_eq', forall_eq, forall_const, implies_true, if_true, if_false, exists_eq_left', exists_eq', exists_eq, ne_eq, planW, stepW, Go.VE.stepT, Go.VE.clearO, Tryz.f51, tb51_96, tb51_93, tb51_92, tb51_95, tb51_94, spPix_q, spPix_A, spPix_pre, spPix_post, spPaint_q, spPaint_A, spPaint_pre, spPaint_post, spRings_q, spRings_A, spRings_pre, spRings_post, spCover_q, spCover_A, spCover_pre, spCover_post, spScal_q, spScal_A, spScal_pre, spScal_post, spOvS_q, spOvS_A, spOvS_pre, spOvS_post]; repeat' (first | apply And.intro | (intro _) | omega | assumption | with_reducible rfl))
  all_goals try (refine drawI (VE.Plan.first 0 (VE.Plan.first 1 (VE.Plan.first 2 (VE.Plan.first 3 (VE.Plan.first 5 (VE.Plan.first 7 (VE.Plan.alt 4 (VE.Plan.alt 6 (VE.Plan.alt 8 (VE.Plan.alt 9 VE.Plan.nil VE.Plan.nil) VE.Plan.nil) VE.Plan.nil) VE.Plan.nil))))))) (by decide +kernel) ?_; simp (config := { maxSteps := 1000000 }) only [go_sem, ↓ifP_true, ↓ifP_false, ↓ifP_not, Nat.reduceLT, Nat.reduceAdd, Nat.reduceBEq, Nat.reduceSub, Nat.reduceLeDiff, Nat.reduceEqDiff, Nat.reduceMul, Int.reduceToNat, Int.reduceEq, Int.reduceLT, Int.reduceLE, Int.reduceAdd, Int.reduceSub, Int.reduceMul, reduceCtorEq, cond_true, cond_false, forall_eq', forall_eq, forall_const, implies_true, if_true, if_false, exists_eq_left', exists_eq', exists_eq, ne_eq, planW, stepW, Go.VE.stepT, Go.VE.clearO, Tryz.f51, tb51_96, tb51_93, tb51_92, tb51_95, tb51_94, spPix_q, spPix_A, spPix_pre, spPix_post, spPaint_q, spPaint_A, spPaint_pre, spPaint_post, spRings_q, spRings_A, spRings_pre, spRings_post, spCover_q, spCover_A, spCover_pre, spCover_post, spScal_q, spScal_A, spScal_pre, spScal_post, spOvS_q, spOvS_A, spOvS_pre, spOvS_post]; repeat' (first | apply And.intro | (intro _) | omega | assumption | with_reducible rfl))
  any_goals
    refine loopS (α := Colr × Int) false [0, 4, 5, 8, 9, 10, 11, 12, 13, 14, 15, 16, 17, 18, 19, 20, 21, 22, 23, 24, 25, 26, 27, 28, 29, 30, 31, 32, 33, 34, 35, 36, 37, 38, 39, 40] (fun σ => [gId (σ.get 7)]) (fun σ x => [(8, I x.2)]) (fun σ x => [(gId (σ.get 7), some ⟨[coC x.1], 4, 29, false, false⟩)]) (fun (o, i) => 0) (fun σ => (gA coCd default (.agg ((boxN σ (gId (σ.get 7))).es.headD [])), gI (σ.get 8))) (fun σ τ => []) (fun (o, i) => (0 ≤ i ∧ i ≤ s.fs.length) ∧ o = pixF (s.fs.take i.toNat) c w) (fun (o, i) => (s.fs.length - i).toNat) ⟨by (simp (config := { maxSteps := 1000000 }) only [go_sem, ↓ifP_true, ↓ifP_false, ↓ifP_not, Nat.reduceLT, Nat.reduceAdd, Nat.reduceBEq, Nat.reduceSub, Nat.reduceLeDiff, Nat.reduceEqDiff, Nat.reduceMul, Int.reduceToNat, Int.reduceEq, Int.reduceLT, Int.reduceLE, Int.reduceAdd, Int.reduceSub, Int.reduceMul, reduceCtorEq, cond_true, cond_false, forall_eq', forall_eq, forall_const, implies_true, if_true, if_false, exists_eq_left', exists_eq', exists_eq, ne_eq, Tryz.f51, tb51_96, tb51_93, tb51_92, tb51_95, tb51_94, spPix_q, spPix_A, spPix_pre, spPix_post, spPaint_q, spPaint_A, spPaint_pre, spPaint_post, spRings_q, spRings_A, spRings_pre, spRings_post, spCover_q, spCover_A, spCover_pre, spCover_post, spScal_q, spScal_A, spScal_pre, spScal_post, spOvS_q, spOvS_A, spOvS_pre, spOvS_post]; (repeat' (first | apply And.intro | (intro _) | omega | assumption | with_reducible rfl)); all_goals (first | rfl)), ?_⟩
    rintro ⟨o, i⟩ hinv
    try dsimp only at hinv
    rcases elemAt s.fs i (by omega) with ⟨hlt, f, hk⟩ | hlt
    all_goals (first | ((have hlt2 := of_eq_true hlt); (have hf := okFs_at hfs hk); (have hvf := List.all_eq_true.1 hal f (List.mem_of_getElem? hk)); (have hvp := vFil_paint hvf); (have hpo := paintP_ok hvp.2.2.2 c w); (have hcv := cov16 (ringsOf f.p) f.rl c w); (have hco := coverC_ok hpo hcv); (have hpi := pixF_ok (c := c) (w := w) (all_take2 hal i.toNat)); (have hpi2 : vCol o = true := by rw [hinv.2]; exact hpi); all_goals simp (config := { maxSteps := 1000000 }) only [go_sem, ↓ifP_true, ↓ifP_false, ↓ifP_not, Nat.reduceLT, Nat.reduceAdd, Nat.reduceBEq, Nat.reduceSub, Nat.reduceLeDiff, Nat.reduceEqDiff, Nat.reduceMul, Int.reduceToNat, Int.reduceEq, Int.reduceLT, Int.reduceLE, Int.reduceAdd, Int.reduceSub, Int.reduceMul, reduceCtorEq, cond_true, cond_false, forall_eq', forall_eq, forall_const, implies_true, if_true, if_false, exists_eq_left', exists_eq', exists_eq, ne_eq, Tryz.f51, tb51_96, tb51_93, tb51_92, tb51_95, tb51_94, spPix_q, spPix_A, spPix_pre, spPix_post, spPaint_q, spPaint_A, spPaint_pre, spPaint_post, spRings_q, spRings_A, spRings_pre, spRings_post, spCover_q, spCover_A, spCover_pre, spCover_post, spScal_q, spScal_A, spScal_pre, spScal_post, spOvS_q, spOvS_A, spOvS_pre, spOvS_post, hlt, hk]) | (have hlt2 := of_eq_false hlt; simp (config := { maxSteps := 1000000 }) only [go_sem, ↓ifP_true, ↓ifP_false, ↓ifP_not, Nat.reduceLT, Nat.reduceAdd, Nat.reduceBEq, Nat.reduceSub, Nat.reduceLeDiff, Nat.reduceEqDiff, Nat.reduceMul, Int.reduceToNat, Int.reduceEq, Int.reduceLT, Int.reduceLE, Int.reduceAdd, Int.reduceSub, Int.reduceMul, reduceCtorEq, cond_true, cond_false, forall_eq', forall_eq, forall_const, implies_true, if_true, if_false, exists_eq_left', exists_eq', exists_eq, ne_eq, Tryz.f51, tb51_96, tb51_93, tb51_92, tb51_95, tb51_94, spPix_q, spPix_A, spPix_pre, spPix_post, spPaint_q, spPaint_A, spPaint_pre, spPaint_post, spRings_q, spRings_A, spRings_pre, spRings_post, spCover_q, spCover_A, spCover_pre, spCover_post, spScal_q, spScal_A, spScal_pre, spScal_post, spOvS_q, spOvS_A, spOvS_pre, spOvS_post, hlt]))
    all_goals
      repeat' (first | apply And.intro | (intro _) | omega | assumption | with_reducible rfl)
    all_goals try (refine drawI (VE.Plan.first 0 (VE.Plan.first 1 (VE.Plan.first 3 (VE.Plan.first 4 (VE.Plan.first 5 (VE.Plan.first 6 (VE.Plan.alt 2 (VE.Plan.alt 7 (VE.Plan.alt 8 VE.Plan.nil VE.Plan.nil) VE.Plan.nil) VE.Plan.nil))))))) (by decide +kernel) ?_; (first | simp (config := { maxSteps := 1000000 }) only [go_sem, ↓ifP_true, ↓ifP_false, ↓ifP_not, Nat.reduceLT, Nat.reduceAdd, Nat.reduceBEq, Nat.reduceSub, Nat.reduceLeDiff, Nat.reduceEqDiff, Nat.reduceMul, Int.reduceToNat, Int.reduceEq, Int.reduceLT, Int.reduceLE, Int.reduceAdd, Int.reduceSub, Int.reduceMul, reduceCtorEq, cond_true, cond_false, forall_eq', forall_eq, forall_const, implies_true, if_true, if_false, exists_eq_left', exists_eq', exists_eq, ne_eq, planW, stepW, Go.VE.stepT, Go.VE.clearO, Tryz.f51, tb51_96, tb51_93, tb51_92, tb51_95, tb51_94, spPix_q, spPix_A, spPix_pre, spPix_post, spPaint_q, spPaint_A, spPaint_pre, spPaint_post, spRings_q, spRings_A, spRings_pre, spRings_post, spCover_q, spCover_A, spCover_pre, spCover_post, spScal_q, spScal_A, spScal_pre, spScal_post, spOvS_q, spOvS_A, spOvS_pre, spOvS_post, hlt, hk] | simp (config := { maxSteps := 1000000 }) only [go_sem, ↓ifP_true, ↓ifP_false, ↓ifP_not, Nat.reduceLT, Nat.reduceAdd, Nat.reduceBEq, Nat.reduceSub, Nat.reduceLeDiff, Nat.reduceEqDiff, Nat.reduceMul, Int.reduceToNat, Int.reduceEq, Int.reduceLT, Int.reduceLE, Int.reduceAdd, Int.reduceSub, Int.reduceMul, reduceCtorEq, cond_true, cond_false, forall_eq', forall_eq, forall_const, implies_true, if_true, if_false, exists_eq_left', exists_eq', exists_eq, ne_eq, planW, stepW, Go.VE.stepT, Go.VE.clearO, Tryz.f51, tb51_96, tb51_93, tb51_92, tb51_95, tb51_94, spPix_q, spPix_A, spPix_pre, spPix_post, spPaint_q, spPaint_A, spPaint_pre, spPaint_post, spRings_q, spRings_A, spRings_pre, spRings_post, spCover_q, spCover_A, spCover_pre, spCover_post, spScal_q, spScal_A, spScal_pre, spScal_post, spOvS_q, spOvS_A, spOvS_pre, spOvS_post]); repeat' (first | apply And.intro | (intro _) | omega | assumption | with_reducible rfl))
    all_goals try (refine drawI (VE.Plan.first 0 (VE.Plan.first 1 (VE.Plan.first 2 (VE.Plan.first 3 (VE.Plan.first 5 (VE.Plan.first 7 (VE.Plan.alt 4 (VE.Plan.alt 6 (VE.Plan.alt 8 (VE.Plan.alt 9 VE.Plan.nil VE.Plan.nil) VE.Plan.nil) VE.Plan.nil) VE.Plan.nil))))))) (by decide +kernel) ?_; (first | simp (config := { maxSteps := 1000000 }) only [go_sem, ↓ifP_true, ↓ifP_false, ↓ifP_not, Nat.reduceLT, Nat.reduceAdd, Nat.reduceBEq, Nat.reduceSub, Nat.reduceLeDiff, Nat.reduceEqDiff, Nat.reduceMul, Int.reduceToNat, Int.reduceEq, Int.reduceLT, Int.reduceLE, Int.reduceAdd, Int.reduceSub, Int.reduceMul, reduceCtorEq, cond_true, cond_false, forall_eq', forall_eq, forall_const, implies_true, if_true, if_false, exists_eq_left', exists_eq', exists_eq, ne_eq, planW, stepW, Go.VE.stepT, Go.VE.clearO, Tryz.f51, tb51_96, tb51_93, tb51_92, tb51_95, tb51_94, spPix_q, spPix_A, spPix_pre, spPix_post, spPaint_q, spPaint_A, spPaint_pre, spPaint_post, spRings_q, spRings_A, spRings_pre, spRings_post, spCover_q, spCover_A, spCover_pre, spCover_post, spScal_q, spScal_A, spScal_pre, spScal_post, spOvS_q, spOvS_A, spOvS_pre, spOvS_post, hlt, hk] | simp (config := { maxSteps := 1000000 }) only [go_sem, ↓ifP_true, ↓ifP_false, ↓ifP_not, Nat.reduceLT, Nat.reduceAdd, Nat.reduceBEq, Nat.reduceSub, Nat.reduceLeDiff, Nat.reduceEqDiff, Nat.reduceMul, Int.reduceToNat, Int.reduceEq, Int.reduceLT, Int.reduceLE, Int.reduceAdd, Int.reduceSub, Int.reduceMul, reduceCtorEq, cond_true, cond_false, forall_eq', forall_eq, forall_const, implies_true, if_true, if_false, exists_eq_left', exists_eq', exists_eq, ne_eq, planW, stepW, Go.VE.stepT, Go.VE.clearO, Tryz.f51, tb51_96, tb51_93, tb51_92, tb51_95, tb51_94, spPix_q, spPix_A, spPix_pre, spPix_post, spPaint_q, spPaint_A, spPaint_pre, spPaint_post, spRings_q, spRings_A, spRings_pre, spRings_post, spCover_q, spCover_A, spCover_pre, spCover_post, spScal_q, spScal_A, spScal_pre, spScal_post, spOvS_q, spOvS_A, spOvS_pre, spOvS_post]); repeat' (first | apply And.intro | (intro _) | omega | assumption | with_reducible rfl))
  
  all_goals (first | (exact hvp.2.2.2; done) | (exact hvp.1; done) | (exact hvp.2.1; done) | (exact vCol_co hpo; done) | (exact vCol_co hco; done) | (exact vCol_co hpi2; done) | ((rw [pix_step hk hinv.1.1, ← hinv.2]; rfl); done) | ((rw [hinv.2, takeA (by omega)]); done) | (omega; done))
theorem sat_spec_pixel : Sat Tryz.prog rt0 51 (wkIn spPix) := sat_in (sat_out sat_spec_pixel_0)
end Go.Proofs.YtkhplopcjkkejaaGreat
end
section
set_option maxRecDepth 100000
set_option linter.unusedSimpArgs false
set_option linter.unusedVariables false
namespace Go.Proofs.YtkhplopcjkkejaaGreat
open Go Go.VE
theorem szd_rng2 {w h : Int} (hz : szd w h = true) : (1 ≤ w ∧ w ≤ 12) ∧ 1 ≤ h ∧ h ≤ 12 := by simpa only [szd, decide_eq_true_eq] using hz
theorem pix_in {s : Scn} {c w : Int} (h : vScn s = true) (h1 : 0 ≤ c) (h2 : c ≤ s.w - 1) (h3 : 0 ≤ w) (h4 : w ≤ s.h - 1) : pixF s.fs c w = pixV s c w := by
  rw [pixV, okPix_eq, h, decide_eq_true (And.intro h1 h2), decide_eq_true (And.intro h3 h4)]; rfl
theorem pix_o1 {s : Scn} {c w : Int} (h : ¬ (0 ≤ c ∧ c ≤ s.w - 1)) : pixV s c w = ⟨0, 0, 0, 0⟩ := by
  rw [pixV, okPix_eq, decide_eq_false h, Bool.false_and, Bool.and_false]; rfl
theorem pix_o2 {s : Scn} {c w : Int} (h : ¬ (0 ≤ w ∧ w ≤ s.h - 1)) : pixV s c w = ⟨0, 0, 0, 0⟩ := by
  rw [pixV, okPix_eq, decide_eq_false h, Bool.and_false, Bool.and_false]; rfl
theorem pix_o3 {s : Scn} {c w : Int} (h : vScn s = false) : pixV s c w = ⟨0, 0, 0, 0⟩ := by
  rw [pixV, okPix_eq, h, Bool.false_and]; rfl
def tb16 : Nat → Option VE.Spec := tabOf [(49, wkIn spVScn), (50, wkIn spIn), (51, wkIn spPix)]
theorem tb16_49 : tb16 49 = some (wkIn spVScn) := rfl
theorem tb16_50 : tb16 50 = some (wkIn spIn) := rfl
theorem tb16_51 : tb16 51 = some (wkIn spPix) := rfl
theorem tb16_ok : TabOK Tryz.prog rt0 tb16 := (tabOf_cons (by kernel_rfl) sat_spec_validScene (tabOf_cons (by kernel_rfl) sat_spec_inRange (tabOf_cons (by kernel_rfl) sat_spec_pixel tabOf_nil)))
set_option maxHeartbeats 4000000 in
theorem sat_spec_PixelOf_0 : Sat Tryz.prog rt0 16 (wkOut spPixOf) := by
  refine fn_sat hm ttok (tab := tb16) tb16_ok Tryz.func16 (c := Tryz.f16.body.getD .skip) (by kernel_rfl) (ts := [.cell 6 29]) (by kernel_rfl) Tryz.ntmps16 (sq := fun _ => true) (by kernel_rfl) ?_
  intro args ins pk hpre0 hpk
  obtain ⟨rfl, hpre0⟩ := hpre0
  obtain ⟨⟨s, c, w⟩, rfl, hpre, hdec⟩ := famPre_ex hpre0
  clear hpre0 hdec
  try simp only [spPixOf_pre] at hpre
  replace hpk : pk + 0 ≤ pickLimit := hpk
  refine ⟨Nat.le_of_ble_eq_true rfl, ?_⟩
  simp (config := { maxSteps := 1000000 }) only [go_sem, ↓ifP_true, ↓ifP_false, ↓ifP_not, Nat.reduceLT, Nat.reduceAdd, Nat.reduceBEq, Nat.reduceSub, Nat.reduceLeDiff, Nat.reduceEqDiff, Nat.reduceMul, Int.reduceToNat, Int.reduceEq, Int.reduceLT, Int.reduceLE, Int.reduceAdd, Int.reduceSub, Int.reduceMul, reduceCtorEq, cond_true, cond_false, forall_eq', forall_eq, forall_const, implies_true, if_true, if_false, exists_eq_left', exists_eq', exists_eq, ne_eq, Tryz.f16, tb16_49, tb16_50, tb16_51, spPixOf_q, spPixOf_A, spPixOf_pre, spPixOf_post, spVScn_q, spVScn_A, spVScn_pre, spVScn_post, spIn_q, spIn_A, spIn_pre, spIn_post, spPix_q, spPix_A, spPix_pre, spPix_post]
  repeat' (first | apply And.intro | (intro _) | omega | assumption | with_reducible rfl)
  all_goals (first | (exact hpre; done) | (exact (vScn_parts ‹_›).2.2; done) | ((have hz := szd_rng2 (vScn_parts ‹vScn s = true›).1; omega); done) | (exact (pix_in ‹_› ‹_› ‹_› ‹_› ‹_›); done) | ((rw [pix_o1 ‹¬ (0 ≤ c ∧ c ≤ s.w - 1)›]; rfl); done) | ((rw [pix_o2 ‹¬ (0 ≤ w ∧ w ≤ s.h - 1)›]; rfl); done) | ((rw [pix_o3 ‹vScn s = false›]; rfl); done))
theorem sat_spec_PixelOf : Sat Tryz.prog rt0 16 (wkIn spPixOf) := sat_in (sat_out sat_spec_PixelOf_0)
def okPa (p : Pnt) (c w : Int) : Bool := vPnt p && decide (0 ≤ c ∧ c ≤ 11) && decide (0 ≤ w ∧ w ≤ 11)
theorem pa_in2 {p : Pnt} {c w : Int} (h : vPnt p = true) (h1 : 0 ≤ c) (h2 : c ≤ 11) (h3 : 0 ≤ w) (h4 : w ≤ 11) : okPa p c w = true := by
  rw [okPa, h, decide_eq_true (And.intro h1 h2), decide_eq_true (And.intro h3 h4)]; rfl
theorem pa_in {p : Pnt} {c w : Int} (h : vPnt p = true) (h1 : (0 ≤ c ∧ c ≤ 11) ∧ 0 ≤ w ∧ w ≤ 11) : okPa p c w = true := pa_in2 h h1.1.1 h1.1.2 h1.2.1 h1.2.2
theorem pa_o1 {p : Pnt} {c w : Int} (h : ¬ (0 ≤ c ∧ c ≤ 11)) : ¬ okPa p c w = true := by
  rw [okPa, decide_eq_false h, Bool.and_false, Bool.false_and]; decide
theorem pa_o2 {p : Pnt} {c w : Int} (h : ¬ (0 ≤ w ∧ w ≤ 11)) : ¬ okPa p c w = true := by
  rw [okPa, decide_eq_false h, Bool.and_false]; decide
theorem pa_o3 {p : Pnt} {c w : Int} (h : vPnt p = false) : ¬ okPa p c w = true := by
  rw [okPa, h, Bool.false_and, Bool.false_and]; decide
end Go.Proofs.YtkhplopcjkkejaaGreat
end
section
set_option maxRecDepth 100000
set_option linter.unusedSimpArgs false
set_option linter.unusedVariables false
namespace Go.Proofs.YtkhplopcjkkejaaGreat
open Go Go.VE
def spPaAt_A : Pnt × Int × Int → List AV
  | (p, c, w) => [.agg (pnC p), I c, I w]
def spPaAt_pre : Pnt × Int × Int → Prop
  | (p, c, w) => p.ss.length ≤ 1000000
def spPaAt_post : Pnt × Int × Int → AV → List Box → Prop
  | (p, c, w), r, bs => r = .agg (coC (if okPa p c w = true then paintP p c w else ⟨0, 0, 0, 0⟩)) ∧ bs = []
def spPaAt : VE.Spec := famSpec spPaAt_A d_pn_i_i spPaAt_pre spPaAt_post 0 true
theorem spPaAt_q : spPaAt.flat = true ∧ spPaAt.mt = [] ∧ spPaAt.shut = false ∧ spPaAt.cost = 0 ∧ (∀ a i, spPaAt.pre a i = (i = [] ∧ famPre d_pn_i_i spPaAt_A spPaAt_pre a)) ∧ ∀ a i r b, spPaAt.post a i r b = (famPost d_pn_i_i spPaAt_post a r b) := ⟨rfl, rfl, rfl, rfl, fun _ _ => rfl, fun _ _ _ _ => rfl⟩
def tb22 : Nat → Option VE.Spec := tabOf [(66, wkIn spVPnt), (58, wkIn spIn), (67, wkIn spPaint)]
theorem tb22_66 : tb22 66 = some (wkIn spVPnt) := rfl
theorem tb22_58 : tb22 58 = some (wkIn spIn) := rfl
theorem tb22_67 : tb22 67 = some (wkIn spPaint) := rfl
theorem tb22_ok : TabOK Tryz.prog rt0 tb22 := (tabOf_cons (by kernel_rfl) sat_impl_Paint_valid (tabOf_cons (by kernel_rfl) sat_impl_in (tabOf_cons (by kernel_rfl) sat_impl_Paint_at tabOf_nil)))
set_option maxHeartbeats 4000000 in
theorem sat_impl_PaintAt_0 : Sat Tryz.prog rt0 22 (wkOut spPaAt) := by
  refine fn_sat hm ttok (tab := tb22) tb22_ok Tryz.func22 (c := Tryz.f22.body.getD .skip) (by kernel_rfl) (ts := [.cell 6 29]) (by kernel_rfl) Tryz.ntmps22 (sq := fun _ => true) (by kernel_rfl) ?_
  intro args ins pk hpre0 hpk
  obtain ⟨rfl, hpre0⟩ := hpre0
  obtain ⟨⟨p, c, w⟩, rfl, hpre, hdec⟩ := famPre_ex hpre0
  clear hpre0 hdec
  try simp only [spPaAt_pre] at hpre
  replace hpk : pk + 0 ≤ pickLimit := hpk
  refine ⟨Nat.le_of_ble_eq_true rfl, ?_⟩
  simp (config := { maxSteps := 1000000 }) only [go_sem, ↓ifP_true, ↓ifP_false, ↓ifP_not, Nat.reduceLT, Nat.reduceAdd, Nat.reduceBEq, Nat.reduceSub, Nat.reduceLeDiff, Nat.reduceEqDiff, Nat.reduceMul, Int.reduceToNat, Int.reduceEq, Int.reduceLT, Int.reduceLE, Int.reduceAdd, Int.reduceSub, Int.reduceMul, reduceCtorEq, cond_true, cond_false, forall_eq', forall_eq, forall_const, implies_true, if_true, if_false, exists_eq_left', exists_eq', exists_eq, ne_eq, Tryz.f22, tb22_66, tb22_58, tb22_67, spPaAt_q, spPaAt_A, spPaAt_pre, spPaAt_post, spVPnt_q, spVPnt_A, spVPnt_pre, spVPnt_post, spIn_q, spIn_A, spIn_pre, spIn_post, spPaint_q, spPaint_A, spPaint_pre, spPaint_post]
  repeat' (first | apply And.intro | (intro _) | omega | assumption | with_reducible rfl)
  all_goals (first | ((rw [if_pos (pa_in ‹_› ‹_›)]); done) | ((rw [if_pos (pa_in2 ‹_› ‹_› ‹_› ‹_› ‹_›)]); done) | ((rw [if_neg (pa_o1 ‹¬ (0 ≤ c ∧ c ≤ 11)›)]; rfl); done) | ((rw [if_neg (pa_o2 ‹¬ (0 ≤ w ∧ w ≤ 11)›)]; rfl); done) | ((rw [if_neg (pa_o3 ‹vPnt p = false›)]; rfl); done))
theorem sat_impl_PaintAt : Sat Tryz.prog rt0 22 (wkIn spPaAt) := sat_in (sat_out sat_impl_PaintAt_0)
end Go.Proofs.YtkhplopcjkkejaaGreat
end
section
set_option maxRecDepth 100000
set_option linter.unusedSimpArgs false
set_option linter.unusedVariables false
namespace Go.Proofs.YtkhplopcjkkejaaGreat
open Go Go.VE
def spDPx_A : (List UInt8) → List AV
  | code => [.c (.sl false (byC code))]
def spDPx_pre : (List UInt8) → Prop
  | code => code.length ≤ 1048576
def spDPx_post : (List UInt8) → AV → List Box → Prop
  | code, r, bs => ∃ s c w, r = .tup [.agg (scC s), I c, I w] ∧ bs = [] ∧ okScn s
def spDPx : VE.Spec := famSpecS spDPx_A d_ly spDPx_pre spDPx_post 1320 false
theorem spDPx_q : spDPx.flat = false ∧ spDPx.mt = [] ∧ spDPx.shut = true ∧ spDPx.cost = 1320 ∧ (∀ a i, spDPx.pre a i = (i = [] ∧ famPre d_ly spDPx_A spDPx_pre a)) ∧ ∀ a i r b, spDPx.post a i r b = (famPost d_ly spDPx_post a r b) := ⟨rfl, rfl, rfl, rfl, fun _ _ => rfl, fun _ _ _ _ => rfl⟩
def tb14 : Nat → Option VE.Spec := tabOf [(44, wkIn spNew), (45, wkIn spAScn), (46, wkIn spOne)]
theorem tb14_44 : tb14 44 = some (wkIn spNew) := rfl
theorem tb14_45 : tb14 45 = some (wkIn spAScn) := rfl
theorem tb14_46 : tb14 46 = some (wkIn spOne) := rfl
theorem tb14_ok : TabOK Tryz.prog rt0 tb14 := (tabOf_cons (by kernel_rfl) sat_spec_newReader (tabOf_cons (by kernel_rfl) sat_spec_anyScene (tabOf_cons (by kernel_rfl) sat_spec_reader_one tabOf_nil)))
set_option maxHeartbeats 4000000 in
theorem sat_spec_DrawPixelOf_0 : Sat Tryz.prog rt0 14 (wkOut spDPx) := by
  refine fn_sat hm ttok (tab := tb14) tb14_ok Tryz.func14 (c := Tryz.f14.body.getD .skip) (by kernel_rfl) (ts := [.cell 2 25, .tmp 3, .tmp 4]) (by kernel_rfl) Tryz.ntmps14 (sq := fun _ => true) (by kernel_rfl) ?_
  intro args ins pk hpre0 hpk
  obtain ⟨rfl, hpre0⟩ := hpre0
  obtain ⟨code, rfl, hpre, hdec⟩ := famPre_ex hpre0
  clear hpre0 hdec
  try simp only [spDPx_pre] at hpre
  replace hpk : pk + 1320 ≤ pickLimit := hpk
  refine ⟨Nat.le_of_ble_eq_true rfl, ?_⟩
  simp (config := { maxSteps := 1000000 }) only [go_sem, ↓ifP_true, ↓ifP_false, ↓ifP_not, Nat.reduceLT, Nat.reduceAdd, Nat.reduceBEq, Nat.reduceSub, Nat.reduceLeDiff, Nat.reduceEqDiff, Nat.reduceMul, Int.reduceToNat, Int.reduceEq, Int.reduceLT, Int.reduceLE, Int.reduceAdd, Int.reduceSub, Int.reduceMul, reduceCtorEq, cond_true, cond_false, forall_eq', forall_eq, forall_const, implies_true, if_true, if_false, exists_eq_left', exists_eq', exists_eq, ne_eq, Tryz.f14, tb14_44, tb14_45, tb14_46, spDPx_q, spDPx_A, spDPx_pre, spDPx_post, spNew_q, spAScn_q, spAScn_A, spAScn_pre, spAScn_post, spOne_q, spOne_A, spOne_pre, spOne_post]
  repeat' (first | apply And.intro | (intro _) | omega | assumption | with_reducible rfl)
  all_goals (first | (exact ⟨_, _, rfl, rfl, hpre⟩; done) | (exact trivial; done) | (assumption; done) | (exact ⟨_, _, _, rfl, rfl, rfl, ‹okScn _›⟩; done) | (exact ⟨_, _, _, rfl, rfl, rfl, rfl, ‹okScn _›⟩; done) | (rfl; done) | (exact trivial; done) | ((simp (config := { maxSteps := 1000000 }) only [go_sem, ↓ifP_true, ↓ifP_false, ↓ifP_not, Nat.reduceLT, Nat.reduceAdd, Nat.reduceBEq, Nat.reduceSub, Nat.reduceLeDiff, Nat.reduceEqDiff, Nat.reduceMul, Int.reduceToNat, Int.reduceEq, Int.reduceLT, Int.reduceLE, Int.reduceAdd, Int.reduceSub, Int.reduceMul, reduceCtorEq, cond_true, cond_false, forall_eq', forall_eq, forall_const, implies_true, if_true, if_false, exists_eq_left', exists_eq', exists_eq, ne_eq]; done); done))
theorem sat_spec_DrawPixelOf : Sat Tryz.prog rt0 14 (wkIn spDPx) := sat_in (sat_out sat_spec_DrawPixelOf_0)
end Go.Proofs.YtkhplopcjkkejaaGreat
end
section
set_option maxRecDepth 100000
set_option linter.unusedSimpArgs false
set_option linter.unusedVariables false
namespace Go.Proofs.YtkhplopcjkkejaaGreat
open Go Go.VE
theorem okF_of {s : Scn} (h : okScn s) {i : Nat} {f : Fil} (hf : s.fs[i]? = some f) : okF f := h.fs.all f (List.mem_of_getElem? hf)
theorem okFs_tk {l : List Fil} (h : okFs l) (n : Nat) : okFs (l.take n) := ⟨by have := h.len; rw [List.length_take]; omega, fun f hf => h.all f (List.mem_of_mem_take hf)⟩
theorem vScn_tk {c : Scn} (h : vScn c = true) (n : Nat) : vScn ⟨c.w, c.h, c.fs.take n⟩ = true := by
  simp only [vScn, Bool.and_eq_true, decide_eq_true_eq] at *
  exact ⟨⟨h.1.1, by rw [List.length_take]; omega⟩, all_take2 h.2 n⟩
theorem pixV_ok {s : Scn} (hv : vScn s = true) (c w : Int) : vCol (pixV s c w) = true := by
  unfold pixV
  split
  · exact pixF_ok (vScn_parts hv).2.2
  · exact vCol_0
theorem paint_yes {p : Pnt} {c w : Int} (h : vPnt p = true) (hc : 0 ≤ c ∧ c ≤ 11) (hw : 0 ≤ w ∧ w ≤ 11) : (if okPa p c w = true then paintP p c w else ⟨0, 0, 0, 0⟩) = paintP p c w := if_pos (pa_in h ⟨hc, hw⟩)
theorem cov_yes {f : Fil} {c w : Int} (h : vFil f = true) (hc : 0 ≤ c ∧ c ≤ 11) (hw : 0 ≤ w ∧ w ≤ 11) : (if okCov (ringsV f.p) f.rl c w = true then cov (ringsV f.p) f.rl c w else -1) = cov (ringsOf f.p) f.rl c w := by
  have hp := vFil_paint h
  have h1 : okCov (ringsOf f.p) f.rl c w = true := by
    simp only [okCov, hp.2.1, hp.2.2.1, decide_eq_true hc, decide_eq_true hw, Bool.and_self]
  rw [ringsV_yes hp.1, if_pos h1]
theorem pix_rng {s : Scn} {c w : Int} (hv : vScn s = true) (h1 : ¬ c < 0) (h2 : ¬ s.w ≤ c) (h3 : ¬ w < 0) (h4 : ¬ s.h ≤ w) : pixV s c w = pixF s.fs c w ∧ (0 ≤ c ∧ c ≤ 11) ∧ 0 ≤ w ∧ w ≤ 11 := by
  have hz := szd_rng2 (vScn_parts hv).1
  exact ⟨(pix_in hv (by omega) (by omega) (by omega) (by omega)).symm, by omega, by omega⟩
theorem pix_last {s : Scn} {c w : Int} {f : Fil} (hv : vScn s = true) (h1 : ¬ c < 0) (h2 : ¬ s.w ≤ c) (h3 : ¬ w < 0) (h4 : ¬ s.h ≤ w) (hf : s.fs[((s.fs.length : Int) - 1).toNat]? = some f) :
    pixV s c w = (if okOv (if okCv (if okPa f.pn c w = true then paintP f.pn c w else ⟨0, 0, 0, 0⟩) (if okCov (ringsV f.p) f.rl c w = true then cov (ringsV f.p) f.rl c w else -1) = true then coverC (if okPa f.pn c w = true then paintP f.pn c w else ⟨0, 0, 0, 0⟩) (if okCov (ringsV f.p) f.rl c w = true then cov (ringsV f.p) f.rl c w else -1) else ⟨0, 0, 0, 0⟩) (pixV ⟨s.w, s.h, s.fs.take ((s.fs.length : Int) - 1).toNat⟩ c w) = true
      then overC (if okCv (if okPa f.pn c w = true then paintP f.pn c w else ⟨0, 0, 0, 0⟩) (if okCov (ringsV f.p) f.rl c w = true then cov (ringsV f.p) f.rl c w else -1) = true then coverC (if okPa f.pn c w = true then paintP f.pn c w else ⟨0, 0, 0, 0⟩) (if okCov (ringsV f.p) f.rl c w = true then cov (ringsV f.p) f.rl c w else -1) else ⟨0, 0, 0, 0⟩) (pixV ⟨s.w, s.h, s.fs.take ((s.fs.length : Int) - 1).toNat⟩ c w) else ⟨0, 0, 0, 0⟩) := by
  have hl := (List.getElem?_eq_some_iff.1 hf).1
  obtain ⟨e1, hc, hw⟩ := pix_rng hv h1 h2 h3 h4
  have hvf := List.all_eq_true.1 (vScn_parts hv).2.2 f (List.mem_of_getElem? hf)
  have hv2 := vScn_tk hv ((s.fs.length : Int) - 1).toNat
  have e2 := (pix_rng (s := ⟨s.w, s.h, s.fs.take ((s.fs.length : Int) - 1).toNat⟩) hv2 h1 h2 h3 h4).1
  rw [paint_yes (vFil_paint hvf).2.2.2 hc hw, cov_yes hvf hc hw, e1, e2]
  dsimp only
  rw [pix_res hvf (pixF_ok (all_take2 (vScn_parts hv).2.2 _)), ← pixF_snoc, ← takeN hf (by omega), takeA (by omega)]
end Go.Proofs.YtkhplopcjkkejaaGreat
end
