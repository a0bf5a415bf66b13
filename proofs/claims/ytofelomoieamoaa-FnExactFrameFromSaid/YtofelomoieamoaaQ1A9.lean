/- Contracts of functions of the program vectorraster, each proved for all states that fit its description. No conditions. -/
import Derived.Test.YtofelomoieamoaaQ1A5
set_option maxRecDepth 100000
set_option linter.unusedSimpArgs false
set_option linter.unusedVariables false
namespace Go.Proofs.Ytofelomoieamoaa
open Go Go.VE
theorem eqL_step {α : Type} {a b : List α} {i : Int} {x y : α} (ha : a[i.toNat]? = some x) (hb : b[i.toNat]? = some y) (e : x = y) (h0 : 0 ≤ i) (h : a.take i.toNat = b.take i.toNat) : a.take (i + 1).toNat = b.take (i + 1).toNat := by
  subst e; rw [takeN ha h0, takeN hb h0, h]
theorem eqL_no {α : Type} {a b : List α} {i : Int} {x y : α} (ha : a[i.toNat]? = some x) (hb : b[i.toNat]? = some y) (h : x ≠ y) : a ≠ b := fun e => by
  rw [e, hb] at ha; exact h (Option.some.inj ha).symm
theorem eqL_end {α : Type} {a b : List α} {i : Int} (hl : (a.length : Int) = b.length) (hi : ¬ i < (a.length : Int)) (h : a.take i.toNat = b.take i.toNat) : a = b := by
  rwa [takeA (by omega), takeA (by omega)] at h
theorem eqL_len {α : Type} {a b : List α} (hl : ¬ (a.length : Int) = b.length) : a ≠ b := fun e => hl (by rw [e])
def spEqR_A : (List Rn) × (List Rn) → List AV
  | (a, b) => [.c (.sl false (a.map rnC)), .c (.sl false (b.map rnC))]
def spEqR_pre : (List Rn) × (List Rn) → Prop
  | (a, b) => a.length ≤ 1000000000 ∧ b.length ≤ 1000000000
def spEqR_post : (List Rn) × (List Rn) → AV → List Box → Prop
  | (a, b), r, bs => r = B (decide (a = b)) ∧ bs = []
def spEqR : VE.Spec := famSpec spEqR_A d_lrn_lrn spEqR_pre spEqR_post 0 true
theorem spEqR_q : spEqR.flat = true ∧ spEqR.mt = [] ∧ spEqR.shut = false ∧ spEqR.cost = 0 ∧ (∀ a i, spEqR.pre a i = (i = [] ∧ famPre d_lrn_lrn spEqR_A spEqR_pre a)) ∧ ∀ a i r b, spEqR.post a i r b = (famPost d_lrn_lrn spEqR_post a r b) := ⟨rfl, rfl, rfl, rfl, fun _ _ => rfl, fun _ _ _ _ => rfl⟩
def tb24 : Nat → Option VE.Spec := tabOf []
theorem tb24_ok : TabOK Try.prog rt0 tb24 := tabOf_nil
set_option maxHeartbeats 4000000 in
theorem sat_laws_equalRuns_0 : Sat Try.prog rt0 24 (wkOut spEqR) := by
  refine fn_sat hm ttok (tab := tb24) tb24_ok Try.func24 (c := Try.f24.body.getD .skip) (by kernel_rfl) (ts := [.tmp 4]) (by kernel_rfl) Try.ntmps24 (sq := fun _ => true) (by kernel_rfl) ?_
  intro args ins pk hpre0 hpk
  obtain ⟨rfl, hpre0⟩ := hpre0
  obtain ⟨⟨a, b⟩, rfl, hpre, hdec⟩ := famPre_ex hpre0
  clear hpre0 hdec
  try simp only [spEqR_pre] at hpre
  replace hpk : pk + 0 ≤ pickLimit := hpk
  refine ⟨Nat.le_of_ble_eq_true rfl, ?_⟩
  simp (config := { maxSteps := 1000000 }) only [go_sem, ↓ifP_true, ↓ifP_false, ↓ifP_not, Nat.reduceLT, Nat.reduceAdd, Nat.reduceBEq, Nat.reduceSub, Nat.reduceLeDiff, Nat.reduceEqDiff, Nat.reduceMul, Int.reduceToNat, Int.reduceEq, Int.reduceLT, Int.reduceLE, Int.reduceAdd, Int.reduceSub, Int.reduceMul, reduceCtorEq, cond_true, cond_false, forall_eq', forall_eq, forall_const, implies_true, if_true, if_false, exists_eq_left', exists_eq', exists_eq, ne_eq, Try.f24, spEqR_q, spEqR_A, spEqR_pre, spEqR_post]
  repeat' (first | apply And.intro | (intro _) | omega | assumption | with_reducible rfl)
  any_goals
    refine loopS (α := Int) false [2, 3, 4, 5, 6, 7, 8, 9, 10, 11, 12, 13, 14, 15, 16, 17, 18, 19, 20, 21, 22, 23, 24, 25] (fun σ => []) (fun σ x => [(5, I x)]) (fun σ x => []) (fun i => 0) (fun σ => gI (σ.get 5)) (fun σ τ => []) (fun i => 0 ≤ i ∧ i ≤ a.length ∧ a.take i.toNat = b.take i.toNat) (fun i => (a.length - i).toNat) ⟨by (simp (config := { maxSteps := 1000000 }) only [go_sem, ↓ifP_true, ↓ifP_false, ↓ifP_not, Nat.reduceLT, Nat.reduceAdd, Nat.reduceBEq, Nat.reduceSub, Nat.reduceLeDiff, Nat.reduceEqDiff, Nat.reduceMul, Int.reduceToNat, Int.reduceEq, Int.reduceLT, Int.reduceLE, Int.reduceAdd, Int.reduceSub, Int.reduceMul, reduceCtorEq, cond_true, cond_false, forall_eq', forall_eq, forall_const, implies_true, if_true, if_false, exists_eq_left', exists_eq', exists_eq, ne_eq, Try.f24, spEqR_q, spEqR_A, spEqR_pre, spEqR_post]; (repeat' (first | apply And.intro | (intro _) | omega | assumption | with_reducible rfl)); all_goals (first | rfl)), ?_⟩
    rintro i hinv
    try dsimp only at hinv
    simp (config := { maxSteps := 1000000 }) only [go_sem, ↓ifP_true, ↓ifP_false, ↓ifP_not, Nat.reduceLT, Nat.reduceAdd, Nat.reduceBEq, Nat.reduceSub, Nat.reduceLeDiff, Nat.reduceEqDiff, Nat.reduceMul, Int.reduceToNat, Int.reduceEq, Int.reduceLT, Int.reduceLE, Int.reduceAdd, Int.reduceSub, Int.reduceMul, reduceCtorEq, cond_true, cond_false, forall_eq', forall_eq, forall_const, implies_true, if_true, if_false, exists_eq_left', exists_eq', exists_eq, ne_eq, Try.f24, spEqR_q, spEqR_A, spEqR_pre, spEqR_post]
    repeat' (first | apply And.intro | (intro _) | omega | assumption | with_reducible rfl)
  
  all_goals (first | (exact eqL_step ‹_› ‹_› ‹_› hinv.1 hinv.2.2; done) | (exact (decide_eq_false (eqL_no ‹_› ‹_› ‹_›)).symm; done) | (exact (decide_eq_true (eqL_end ‹_› ‹_› hinv.2.2)).symm; done) | (exact (decide_eq_false (eqL_len ‹_›)).symm; done))
theorem sat_laws_equalRuns : Sat Try.prog rt0 24 (wkIn spEqR) := sat_in (sat_out sat_laws_equalRuns_0)
def spEqRs_A : (List Rn) × (List Rn) → List AV
  | (a, b) => [.c (.sl false (a.map rnC)), .c (.sl false (b.map rnC))]
def spEqRs_pre : (List Rn) × (List Rn) → Prop
  | (a, b) => a.length ≤ 1000000000 ∧ b.length ≤ 1000000000
def spEqRs_post : (List Rn) × (List Rn) → AV → List Box → Prop
  | (a, b), r, bs => r = B (decide (a = b)) ∧ bs = []
def spEqRs : VE.Spec := famSpec spEqRs_A d_lrn_lrn spEqRs_pre spEqRs_post 0 true
theorem spEqRs_q : spEqRs.flat = true ∧ spEqRs.mt = [] ∧ spEqRs.shut = false ∧ spEqRs.cost = 0 ∧ (∀ a i, spEqRs.pre a i = (i = [] ∧ famPre d_lrn_lrn spEqRs_A spEqRs_pre a)) ∧ ∀ a i r b, spEqRs.post a i r b = (famPost d_lrn_lrn spEqRs_post a r b) := ⟨rfl, rfl, rfl, rfl, fun _ _ => rfl, fun _ _ _ _ => rfl⟩
def tb55 : Nat → Option VE.Spec := tabOf []
theorem tb55_ok : TabOK Try.prog rt0 tb55 := tabOf_nil
set_option maxHeartbeats 4000000 in
theorem sat_slices_Equal_impl_Run_impl_Run_0 : Sat Try.prog rt0 55 (wkOut spEqRs) := by
  refine fn_sat hm ttok (tab := tb55) tb55_ok Try.func55 (c := Try.f55.body.getD .skip) (by kernel_rfl) (ts := [.tmp 4]) (by kernel_rfl) Try.ntmps55 (sq := fun _ => true) (by kernel_rfl) ?_
  intro args ins pk hpre0 hpk
  obtain ⟨rfl, hpre0⟩ := hpre0
  obtain ⟨⟨a, b⟩, rfl, hpre, hdec⟩ := famPre_ex hpre0
  clear hpre0 hdec
  try simp only [spEqRs_pre] at hpre
  replace hpk : pk + 0 ≤ pickLimit := hpk
  refine ⟨Nat.le_of_ble_eq_true rfl, ?_⟩
  simp (config := { maxSteps := 1000000 }) only [go_sem, ↓ifP_true, ↓ifP_false, ↓ifP_not, Nat.reduceLT, Nat.reduceAdd, Nat.reduceBEq, Nat.reduceSub, Nat.reduceLeDiff, Nat.reduceEqDiff, Nat.reduceMul, Int.reduceToNat, Int.reduceEq, Int.reduceLT, Int.reduceLE, Int.reduceAdd, Int.reduceSub, Int.reduceMul, reduceCtorEq, cond_true, cond_false, forall_eq', forall_eq, forall_const, implies_true, if_true, if_false, exists_eq_left', exists_eq', exists_eq, ne_eq, Try.f55, spEqRs_q, spEqRs_A, spEqRs_pre, spEqRs_post]
  repeat' (first | apply And.intro | (intro _) | omega | assumption | with_reducible rfl)
  any_goals
    refine loopS (α := Int) false [2, 3, 4, 5, 6, 7, 8, 9, 10, 11, 13, 14, 15, 16, 17, 18, 19, 20, 21, 22, 23, 24, 25] (fun σ => []) (fun σ x => [(13, I x)]) (fun σ x => []) (fun i => 0) (fun σ => gI (σ.get 13)) (fun σ τ => []) (fun i => 0 ≤ i ∧ i ≤ a.length ∧ a.take i.toNat = b.take i.toNat) (fun i => (a.length - i).toNat) ⟨by (simp (config := { maxSteps := 1000000 }) only [go_sem, ↓ifP_true, ↓ifP_false, ↓ifP_not, Nat.reduceLT, Nat.reduceAdd, Nat.reduceBEq, Nat.reduceSub, Nat.reduceLeDiff, Nat.reduceEqDiff, Nat.reduceMul, Int.reduceToNat, Int.reduceEq, Int.reduceLT, Int.reduceLE, Int.reduceAdd, Int.reduceSub, Int.reduceMul, reduceCtorEq, cond_true, cond_false, forall_eq', forall_eq, forall_const, implies_true, if_true, if_false, exists_eq_left', exists_eq', exists_eq, ne_eq, Try.f55, spEqRs_q, spEqRs_A, spEqRs_pre, spEqRs_post]; (repeat' (first | apply And.intro | (intro _) | omega | assumption | with_reducible rfl)); all_goals (first | rfl)), ?_⟩
    rintro i hinv
    try dsimp only at hinv
    simp (config := { maxSteps := 1000000 }) only [go_sem, ↓ifP_true, ↓ifP_false, ↓ifP_not, Nat.reduceLT, Nat.reduceAdd, Nat.reduceBEq, Nat.reduceSub, Nat.reduceLeDiff, Nat.reduceEqDiff, Nat.reduceMul, Int.reduceToNat, Int.reduceEq, Int.reduceLT, Int.reduceLE, Int.reduceAdd, Int.reduceSub, Int.reduceMul, reduceCtorEq, cond_true, cond_false, forall_eq', forall_eq, forall_const, implies_true, if_true, if_false, exists_eq_left', exists_eq', exists_eq, ne_eq, Try.f55, spEqRs_q, spEqRs_A, spEqRs_pre, spEqRs_post]
    repeat' (first | apply And.intro | (intro _) | omega | assumption | with_reducible rfl)
  
  all_goals (first | (exact eqL_step ‹_› ‹_› ‹_› hinv.1 hinv.2.2; done) | (exact (decide_eq_false (eqL_no ‹_› ‹_› ‹_›)).symm; done) | (exact (decide_eq_true (eqL_end ‹_› ‹_› hinv.2.2)).symm; done) | (exact (decide_eq_false (eqL_len ‹_›)).symm; done))
theorem sat_slices_Equal_impl_Run_impl_Run : Sat Try.prog rt0 55 (wkIn spEqRs) := sat_in (sat_out sat_slices_Equal_impl_Run_impl_Run_0)
def spEqC_A : (List Colr) × (List Colr) → List AV
  | (a, b) => [.c (.sl false (a.map coC)), .c (.sl false (b.map coC))]
def spEqC_pre : (List Colr) × (List Colr) → Prop
  | (a, b) => a.length ≤ 1000000000 ∧ b.length ≤ 1000000000
def spEqC_post : (List Colr) × (List Colr) → AV → List Box → Prop
  | (a, b), r, bs => r = B (decide (a = b)) ∧ bs = []
def spEqC : VE.Spec := famSpec spEqC_A d_lco_lco spEqC_pre spEqC_post 0 true
theorem spEqC_q : spEqC.flat = true ∧ spEqC.mt = [] ∧ spEqC.shut = false ∧ spEqC.cost = 0 ∧ (∀ a i, spEqC.pre a i = (i = [] ∧ famPre d_lco_lco spEqC_A spEqC_pre a)) ∧ ∀ a i r b, spEqC.post a i r b = (famPost d_lco_lco spEqC_post a r b) := ⟨rfl, rfl, rfl, rfl, fun _ _ => rfl, fun _ _ _ _ => rfl⟩
def tb40 : Nat → Option VE.Spec := tabOf []
theorem tb40_ok : TabOK Try.prog rt0 tb40 := tabOf_nil
set_option maxHeartbeats 4000000 in
theorem sat_laws_equalColors_0 : Sat Try.prog rt0 40 (wkOut spEqC) := by
  refine fn_sat hm ttok (tab := tb40) tb40_ok Try.func40 (c := Try.f40.body.getD .skip) (by kernel_rfl) (ts := [.tmp 4]) (by kernel_rfl) Try.ntmps40 (sq := fun _ => true) (by kernel_rfl) ?_
  intro args ins pk hpre0 hpk
  obtain ⟨rfl, hpre0⟩ := hpre0
  obtain ⟨⟨a, b⟩, rfl, hpre, hdec⟩ := famPre_ex hpre0
  clear hpre0 hdec
  try simp only [spEqC_pre] at hpre
  replace hpk : pk + 0 ≤ pickLimit := hpk
  refine ⟨Nat.le_of_ble_eq_true rfl, ?_⟩
  simp (config := { maxSteps := 1000000 }) only [go_sem, ↓ifP_true, ↓ifP_false, ↓ifP_not, Nat.reduceLT, Nat.reduceAdd, Nat.reduceBEq, Nat.reduceSub, Nat.reduceLeDiff, Nat.reduceEqDiff, Nat.reduceMul, Int.reduceToNat, Int.reduceEq, Int.reduceLT, Int.reduceLE, Int.reduceAdd, Int.reduceSub, Int.reduceMul, reduceCtorEq, cond_true, cond_false, forall_eq', forall_eq, forall_const, implies_true, if_true, if_false, exists_eq_left', exists_eq', exists_eq, ne_eq, Try.f40, spEqC_q, spEqC_A, spEqC_pre, spEqC_post]
  repeat' (first | apply And.intro | (intro _) | omega | assumption | with_reducible rfl)
  any_goals
    refine loopS (α := Int) false [2, 3, 4, 5, 6, 7, 8, 9, 10, 11, 12, 13, 14, 15, 16, 17, 18, 19, 20, 21, 22, 23, 24, 25] (fun σ => []) (fun σ x => [(5, I x)]) (fun σ x => []) (fun i => 0) (fun σ => gI (σ.get 5)) (fun σ τ => []) (fun i => 0 ≤ i ∧ i ≤ a.length ∧ a.take i.toNat = b.take i.toNat) (fun i => (a.length - i).toNat) ⟨by (simp (config := { maxSteps := 1000000 }) only [go_sem, ↓ifP_true, ↓ifP_false, ↓ifP_not, Nat.reduceLT, Nat.reduceAdd, Nat.reduceBEq, Nat.reduceSub, Nat.reduceLeDiff, Nat.reduceEqDiff, Nat.reduceMul, Int.reduceToNat, Int.reduceEq, Int.reduceLT, Int.reduceLE, Int.reduceAdd, Int.reduceSub, Int.reduceMul, reduceCtorEq, cond_true, cond_false, forall_eq', forall_eq, forall_const, implies_true, if_true, if_false, exists_eq_left', exists_eq', exists_eq, ne_eq, Try.f40, spEqC_q, spEqC_A, spEqC_pre, spEqC_post]; (repeat' (first | apply And.intro | (intro _) | omega | assumption | with_reducible rfl)); all_goals (first | rfl)), ?_⟩
    rintro i hinv
    try dsimp only at hinv
    simp (config := { maxSteps := 1000000 }) only [go_sem, ↓ifP_true, ↓ifP_false, ↓ifP_not, Nat.reduceLT, Nat.reduceAdd, Nat.reduceBEq, Nat.reduceSub, Nat.reduceLeDiff, Nat.reduceEqDiff, Nat.reduceMul, Int.reduceToNat, Int.reduceEq, Int.reduceLT, Int.reduceLE, Int.reduceAdd, Int.reduceSub, Int.reduceMul, reduceCtorEq, cond_true, cond_false, forall_eq', forall_eq, forall_const, implies_true, if_true, if_false, exists_eq_left', exists_eq', exists_eq, ne_eq, Try.f40, spEqC_q, spEqC_A, spEqC_pre, spEqC_post]
    repeat' (first | apply And.intro | (intro _) | omega | assumption | with_reducible rfl)
  
  all_goals (first | (exact eqL_step ‹_› ‹_› ‹_› hinv.1 hinv.2.2; done) | (exact (decide_eq_false (eqL_no ‹_› ‹_› ‹_›)).symm; done) | (exact (decide_eq_true (eqL_end ‹_› ‹_› hinv.2.2)).symm; done) | (exact (decide_eq_false (eqL_len ‹_›)).symm; done))
theorem sat_laws_equalColors : Sat Try.prog rt0 40 (wkIn spEqC) := sat_in (sat_out sat_laws_equalColors_0)
theorem frm_eq {a b : Frm} (h1 : a.w = b.w) (h2 : a.h = b.h) (h3 : a.px = b.px) : a = b := by
  obtain ⟨_, _, _⟩ := a
  obtain ⟨_, _, _⟩ := b
  dsimp only at h1 h2 h3
  rw [h1, h2, h3]
theorem frm_dec (a b : Frm) : decide (a = b) = (decide (a.w = b.w) && (decide (a.h = b.h) && decide (a.px = b.px))) := by
  by_cases h1 : a.w = b.w
  · by_cases h2 : a.h = b.h
    · by_cases h3 : a.px = b.px
      · simp [h1, h2, h3, frm_eq h1 h2 h3]
      · have : ¬ a = b := fun e => h3 (by rw [e])
        simp [h1, h2, h3, this]
    · have : ¬ a = b := fun e => h2 (by rw [e])
      simp [h2, this]
  · have : ¬ a = b := fun e => h1 (by rw [e])
    simp [h1, this]
def spEqF_A : Frm × Frm → List AV
  | (a, b) => [.agg (frC a), .agg (frC b)]
def spEqF_pre : Frm × Frm → Prop
  | (a, b) => a.px.length ≤ 1000000000 ∧ b.px.length ≤ 1000000000
def spEqF_post : Frm × Frm → AV → List Box → Prop
  | (a, b), r, bs => r = B (decide (a = b)) ∧ bs = []
def spEqF : VE.Spec := famSpec spEqF_A d_fr_fr spEqF_pre spEqF_post 0 true
theorem spEqF_q : spEqF.flat = true ∧ spEqF.mt = [] ∧ spEqF.shut = false ∧ spEqF.cost = 0 ∧ (∀ a i, spEqF.pre a i = (i = [] ∧ famPre d_fr_fr spEqF_A spEqF_pre a)) ∧ ∀ a i r b, spEqF.post a i r b = (famPost d_fr_fr spEqF_post a r b) := ⟨rfl, rfl, rfl, rfl, fun _ _ => rfl, fun _ _ _ _ => rfl⟩
def tb14 : Nat → Option VE.Spec := tabOf [(40, wkIn spEqC)]
theorem tb14_40 : tb14 40 = some (wkIn spEqC) := rfl
theorem tb14_ok : TabOK Try.prog rt0 tb14 := (tabOf_cons (by kernel_rfl) sat_laws_equalColors tabOf_nil)
set_option maxHeartbeats 4000000 in
theorem sat_laws_equalFrame_0 : Sat Try.prog rt0 14 (wkOut spEqF) := by
  refine fn_sat hm ttok (tab := tb14) tb14_ok Try.func14 (c := Try.f14.body.getD .skip) (by kernel_rfl) (ts := [.tmp 4]) (by kernel_rfl) Try.ntmps14 (sq := fun _ => true) (by kernel_rfl) ?_
  intro args ins pk hpre0 hpk
  obtain ⟨rfl, hpre0⟩ := hpre0
  obtain ⟨⟨a, b⟩, rfl, hpre, hdec⟩ := famPre_ex hpre0
  clear hpre0 hdec
  try simp only [spEqF_pre] at hpre
  replace hpk : pk + 0 ≤ pickLimit := hpk
  refine ⟨Nat.le_of_ble_eq_true rfl, ?_⟩
  simp (config := { maxSteps := 1000000 }) only [go_sem, ↓ifP_true, ↓ifP_false, ↓ifP_not, Nat.reduceLT, Nat.reduceAdd, Nat.reduceBEq, Nat.reduceSub, Nat.reduceLeDiff, Nat.reduceEqDiff, Nat.reduceMul, Int.reduceToNat, Int.reduceEq, Int.reduceLT, Int.reduceLE, Int.reduceAdd, Int.reduceSub, Int.reduceMul, reduceCtorEq, cond_true, cond_false, forall_eq', forall_eq, forall_const, implies_true, if_true, if_false, exists_eq_left', exists_eq', exists_eq, ne_eq, Try.f14, tb14_40, spEqF_q, spEqF_A, spEqF_pre, spEqF_post, spEqC_q, spEqC_A, spEqC_pre, spEqC_post]
  repeat' (first | apply And.intro | (intro _) | omega | assumption | with_reducible rfl)
  all_goals (first | (omega; done) | ((rw [frm_dec]; simp [*]; done); done) | ((rw [frm_dec]; simp_all); done))
theorem sat_laws_equalFrame : Sat Try.prog rt0 14 (wkIn spEqF) := sat_in (sat_out sat_laws_equalFrame_0)
end Go.Proofs.Ytofelomoieamoaa
