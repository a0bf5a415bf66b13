/- Contracts of functions of the program vectorraster, each proved for all states that fit its description. No conditions. -/
import Derived.Test.YtofelomoieamoaaQ1A1
set_option maxRecDepth 100000
set_option linter.unusedSimpArgs false
set_option linter.unusedVariables false
namespace Go.Proofs.Ytofelomoieamoaa
open Go Go.VE
def spNCol_A : Colr → List AV
  | c => [.agg (coC c)]
def spNCol_pre : Colr → Prop
  | c => True
def spNCol_post : Colr → AV → List Box → Prop
  | c, r, bs => r = B (!vCol c) ∧ bs = []
def spNCol : VE.Spec := famSpec spNCol_A d_co spNCol_pre spNCol_post 0 true
theorem spNCol_q : spNCol.flat = true ∧ spNCol.mt = [] ∧ spNCol.shut = false ∧ spNCol.cost = 0 ∧ (∀ a i, spNCol.pre a i = (i = [] ∧ famPre d_co spNCol_A spNCol_pre a)) ∧ ∀ a i r b, spNCol.post a i r b = (famPost d_co spNCol_post a r b) := ⟨rfl, rfl, rfl, rfl, fun _ _ => rfl, fun _ _ _ _ => rfl⟩
def tb64 : Nat → Option VE.Spec := tabOf [(65, wkIn spVCol)]
theorem tb64_65 : tb64 65 = some (wkIn spVCol) := rfl
theorem tb64_ok : TabOK Try.prog rt0 tb64 := (tabOf_cons (by kernel_rfl) sat_impl_ValidColor tabOf_nil)
set_option maxHeartbeats 4000000 in
theorem sat_impl_Frame_valid_1_0 : Sat Try.prog rt0 64 (wkOut spNCol) := by
  refine fn_sat hm ttok (tab := tb64) tb64_ok Try.func64 (c := Try.f64.body.getD .skip) (by kernel_rfl) (ts := [.tmp 2]) (by kernel_rfl) Try.ntmps64 (sq := fun _ => true) (by kernel_rfl) ?_
  intro args ins pk hpre0 hpk
  obtain ⟨rfl, hpre0⟩ := hpre0
  obtain ⟨c, rfl, hpre, hdec⟩ := famPre_ex hpre0
  clear hpre0 hdec
  try simp only [spNCol_pre] at hpre
  replace hpk : pk + 0 ≤ pickLimit := hpk
  refine ⟨Nat.le_of_ble_eq_true rfl, ?_⟩
  simp (config := { maxSteps := 1000000 }) only [go_sem, ↓ifP_true, ↓ifP_false, ↓ifP_not, Nat.reduceLT, Nat.reduceAdd, Nat.reduceBEq, Nat.reduceSub, Nat.reduceLeDiff, Nat.reduceEqDiff, Nat.reduceMul, Int.reduceToNat, Int.reduceEq, Int.reduceLT, Int.reduceLE, Int.reduceAdd, Int.reduceSub, Int.reduceMul, reduceCtorEq, cond_true, cond_false, forall_eq', forall_eq, forall_const, implies_true, if_true, if_false, exists_eq_left', exists_eq', exists_eq, ne_eq, Try.f64, tb64_65, spNCol_q, spNCol_A, spNCol_pre, spNCol_post, spVCol_q, spVCol_A, spVCol_pre, spVCol_post]
  repeat' (first | apply And.intro | (intro _) | omega | assumption | with_reducible rfl)
theorem sat_impl_Frame_valid_1 : Sat Try.prog rt0 64 (wkIn spNCol) := sat_in (sat_out sat_impl_Frame_valid_1_0)
def spIdxC_A : (List Colr) → List AV
  | l => [.c (.sl false (l.map coC)), .c (.fn 64 [])]
def spIdxC_pre : (List Colr) → Prop
  | l => l.length ≤ 1000000000
def spIdxC_post : (List Colr) → AV → List Box → Prop
  | l, r, bs => ∃ m, r = I m ∧ bs = [] ∧ decide (0 ≤ m) = (!l.all vCol)
def spIdxC : VE.Spec := famSpec spIdxC_A d_lco_f64 spIdxC_pre spIdxC_post 0 true
theorem spIdxC_q : spIdxC.flat = true ∧ spIdxC.mt = [] ∧ spIdxC.shut = false ∧ spIdxC.cost = 0 ∧ (∀ a i, spIdxC.pre a i = (i = [] ∧ famPre d_lco_f64 spIdxC_A spIdxC_pre a)) ∧ ∀ a i r b, spIdxC.post a i r b = (famPost d_lco_f64 spIdxC_post a r b) := ⟨rfl, rfl, rfl, rfl, fun _ _ => rfl, fun _ _ _ _ => rfl⟩
def tb74 : Nat → Option VE.Spec := tabOf [(64, wkIn spNCol)]
theorem tb74_64 : tb74 64 = some (wkIn spNCol) := rfl
theorem tb74_ok : TabOK Try.prog rt0 tb74 := (tabOf_cons (by kernel_rfl) sat_impl_Frame_valid_1 tabOf_nil)
set_option maxHeartbeats 4000000 in
theorem sat_slices_IndexFunc_impl_Color_impl_Color_0 : Sat Try.prog rt0 74 (wkOut spIdxC) := by
  refine fn_sat hm ttok (tab := tb74) tb74_ok Try.func74 (c := Try.f74.body.getD .skip) (by kernel_rfl) (ts := [.tmp 4]) (by kernel_rfl) Try.ntmps74 (sq := fun _ => true) (by kernel_rfl) ?_
  intro args ins pk hpre0 hpk
  obtain ⟨rfl, hpre0⟩ := hpre0
  obtain ⟨l, rfl, hpre, hdec⟩ := famPre_ex hpre0
  clear hpre0 hdec
  try simp only [spIdxC_pre] at hpre
  replace hpk : pk + 0 ≤ pickLimit := hpk
  refine ⟨Nat.le_of_ble_eq_true rfl, ?_⟩
  simp (config := { maxSteps := 1000000 }) only [go_sem, ↓ifP_true, ↓ifP_false, ↓ifP_not, Nat.reduceLT, Nat.reduceAdd, Nat.reduceBEq, Nat.reduceSub, Nat.reduceLeDiff, Nat.reduceEqDiff, Nat.reduceMul, Int.reduceToNat, Int.reduceEq, Int.reduceLT, Int.reduceLE, Int.reduceAdd, Int.reduceSub, Int.reduceMul, reduceCtorEq, cond_true, cond_false, forall_eq', forall_eq, forall_const, implies_true, if_true, if_false, exists_eq_left', exists_eq', exists_eq, ne_eq, Try.f74, tb74_64, spIdxC_q, spIdxC_A, spIdxC_pre, spIdxC_post, spNCol_q, spNCol_A, spNCol_pre, spNCol_post]
  repeat' (first | apply And.intro | (intro _) | omega | assumption | with_reducible rfl)
  refine loopS (α := Int) false [2, 3, 4, 5, 6, 8, 9, 10, 11, 12, 13, 14, 15, 16, 17, 18] (fun σ => []) (fun σ x => [(8, I x)]) (fun σ x => []) (fun i => 0) (fun σ => gI (σ.get 8)) (fun σ τ => []) (fun i => 0 ≤ i ∧ i ≤ l.length ∧ (l.take i.toNat).all vCol = true) (fun i => (l.length - i).toNat) ⟨by (simp (config := { maxSteps := 1000000 }) only [go_sem, ↓ifP_true, ↓ifP_false, ↓ifP_not, Nat.reduceLT, Nat.reduceAdd, Nat.reduceBEq, Nat.reduceSub, Nat.reduceLeDiff, Nat.reduceEqDiff, Nat.reduceMul, Int.reduceToNat, Int.reduceEq, Int.reduceLT, Int.reduceLE, Int.reduceAdd, Int.reduceSub, Int.reduceMul, reduceCtorEq, cond_true, cond_false, forall_eq', forall_eq, forall_const, implies_true, if_true, if_false, exists_eq_left', exists_eq', exists_eq, ne_eq, Try.f74, tb74_64, spIdxC_q, spIdxC_A, spIdxC_pre, spIdxC_post, spNCol_q, spNCol_A, spNCol_pre, spNCol_post]; (repeat' (first | apply And.intro | (intro _) | omega | assumption | with_reducible rfl))), ?_⟩
  rintro i hinv
  try dsimp only at hinv
  simp (config := { maxSteps := 1000000 }) only [go_sem, ↓ifP_true, ↓ifP_false, ↓ifP_not, Nat.reduceLT, Nat.reduceAdd, Nat.reduceBEq, Nat.reduceSub, Nat.reduceLeDiff, Nat.reduceEqDiff, Nat.reduceMul, Int.reduceToNat, Int.reduceEq, Int.reduceLT, Int.reduceLE, Int.reduceAdd, Int.reduceSub, Int.reduceMul, reduceCtorEq, cond_true, cond_false, forall_eq', forall_eq, forall_const, implies_true, if_true, if_false, exists_eq_left', exists_eq', exists_eq, ne_eq, Try.f74, tb74_64, spIdxC_q, spIdxC_A, spIdxC_pre, spIdxC_post, spNCol_q, spNCol_A, spNCol_pre, spNCol_post]
  repeat' (first | apply And.intro | (intro _) | omega | assumption | with_reducible rfl)
  all_goals (first | (grind [→ takeN, takeA, all_bad]; done))
theorem sat_slices_IndexFunc_impl_Color_impl_Color : Sat Try.prog rt0 74 (wkIn spIdxC) := sat_in (sat_out sat_slices_IndexFunc_impl_Color_impl_Color_0)
def spHasC_A : (List Colr) → List AV
  | l => [.c (.sl false (l.map coC)), .c (.fn 64 [])]
def spHasC_pre : (List Colr) → Prop
  | l => l.length ≤ 1000000000
def spHasC_post : (List Colr) → AV → List Box → Prop
  | l, r, bs => r = B (!l.all vCol) ∧ bs = []
def spHasC : VE.Spec := famSpec spHasC_A d_lco_f64 spHasC_pre spHasC_post 0 true
theorem spHasC_q : spHasC.flat = true ∧ spHasC.mt = [] ∧ spHasC.shut = false ∧ spHasC.cost = 0 ∧ (∀ a i, spHasC.pre a i = (i = [] ∧ famPre d_lco_f64 spHasC_A spHasC_pre a)) ∧ ∀ a i r b, spHasC.post a i r b = (famPost d_lco_f64 spHasC_post a r b) := ⟨rfl, rfl, rfl, rfl, fun _ _ => rfl, fun _ _ _ _ => rfl⟩
def tb63 : Nat → Option VE.Spec := tabOf [(74, wkIn spIdxC)]
theorem tb63_74 : tb63 74 = some (wkIn spIdxC) := rfl
theorem tb63_ok : TabOK Try.prog rt0 tb63 := (tabOf_cons (by kernel_rfl) sat_slices_IndexFunc_impl_Color_impl_Color tabOf_nil)
set_option maxHeartbeats 4000000 in
theorem sat_slices_ContainsFunc_impl_Color_impl_Color_0 : Sat Try.prog rt0 63 (wkOut spHasC) := by
  refine fn_sat hm ttok (tab := tb63) tb63_ok Try.func63 (c := Try.f63.body.getD .skip) (by kernel_rfl) (ts := [.tmp 4]) (by kernel_rfl) Try.ntmps63 (sq := fun _ => true) (by kernel_rfl) ?_
  intro args ins pk hpre0 hpk
  obtain ⟨rfl, hpre0⟩ := hpre0
  obtain ⟨l, rfl, hpre, hdec⟩ := famPre_ex hpre0
  clear hpre0 hdec
  try simp only [spHasC_pre] at hpre
  replace hpk : pk + 0 ≤ pickLimit := hpk
  refine ⟨Nat.le_of_ble_eq_true rfl, ?_⟩
  simp (config := { maxSteps := 1000000 }) only [go_sem, ↓ifP_true, ↓ifP_false, ↓ifP_not, Nat.reduceLT, Nat.reduceAdd, Nat.reduceBEq, Nat.reduceSub, Nat.reduceLeDiff, Nat.reduceEqDiff, Nat.reduceMul, Int.reduceToNat, Int.reduceEq, Int.reduceLT, Int.reduceLE, Int.reduceAdd, Int.reduceSub, Int.reduceMul, reduceCtorEq, cond_true, cond_false, forall_eq', forall_eq, forall_const, implies_true, if_true, if_false, exists_eq_left', exists_eq', exists_eq, ne_eq, Try.f63, tb63_74, spHasC_q, spHasC_A, spHasC_pre, spHasC_post, spIdxC_q, spIdxC_A, spIdxC_pre, spIdxC_post]
  repeat' (first | apply And.intro | (intro _) | omega | assumption | with_reducible rfl)
  all_goals (first | (grind; done))
theorem sat_slices_ContainsFunc_impl_Color_impl_Color : Sat Try.prog rt0 63 (wkIn spHasC) := sat_in (sat_out sat_slices_ContainsFunc_impl_Color_impl_Color_0)
def spVFrm_A : Frm → List AV
  | f => [.agg (frC f)]
def spVFrm_pre : Frm → Prop
  | f => f.px.length ≤ 1000000000
def spVFrm_post : Frm → AV → List Box → Prop
  | f, r, bs => r = B (vFrm f) ∧ bs = []
def spVFrm : VE.Spec := famSpec spVFrm_A d_fr spVFrm_pre spVFrm_post 0 true
theorem spVFrm_q : spVFrm.flat = true ∧ spVFrm.mt = [] ∧ spVFrm.shut = false ∧ spVFrm.cost = 0 ∧ (∀ a i, spVFrm.pre a i = (i = [] ∧ famPre d_fr spVFrm_A spVFrm_pre a)) ∧ ∀ a i r b, spVFrm.post a i r b = (famPost d_fr spVFrm_post a r b) := ⟨rfl, rfl, rfl, rfl, fun _ _ => rfl, fun _ _ _ _ => rfl⟩
def tb43 : Nat → Option VE.Spec := tabOf [(39, wkIn spSzd), (63, wkIn spHasC)]
theorem tb43_39 : tb43 39 = some (wkIn spSzd) := rfl
theorem tb43_63 : tb43 63 = some (wkIn spHasC) := rfl
theorem tb43_ok : TabOK Try.prog rt0 tb43 := (tabOf_cons (by kernel_rfl) sat_impl_sized (tabOf_cons (by kernel_rfl) sat_slices_ContainsFunc_impl_Color_impl_Color tabOf_nil))
set_option maxHeartbeats 4000000 in
theorem sat_impl_Frame_valid_0 : Sat Try.prog rt0 43 (wkOut spVFrm) := by
  refine fn_sat hm ttok (tab := tb43) tb43_ok Try.func43 (c := Try.f43.body.getD .skip) (by kernel_rfl) (ts := [.tmp 2]) (by kernel_rfl) Try.ntmps43 (sq := fun _ => true) (by kernel_rfl) ?_
  intro args ins pk hpre0 hpk
  obtain ⟨rfl, hpre0⟩ := hpre0
  obtain ⟨f, rfl, hpre, hdec⟩ := famPre_ex hpre0
  clear hpre0 hdec
  try simp only [spVFrm_pre] at hpre
  replace hpk : pk + 0 ≤ pickLimit := hpk
  refine ⟨Nat.le_of_ble_eq_true rfl, ?_⟩
  simp (config := { maxSteps := 1000000 }) only [go_sem, ↓ifP_true, ↓ifP_false, ↓ifP_not, Nat.reduceLT, Nat.reduceAdd, Nat.reduceBEq, Nat.reduceSub, Nat.reduceLeDiff, Nat.reduceEqDiff, Nat.reduceMul, Int.reduceToNat, Int.reduceEq, Int.reduceLT, Int.reduceLE, Int.reduceAdd, Int.reduceSub, Int.reduceMul, reduceCtorEq, cond_true, cond_false, forall_eq', forall_eq, forall_const, implies_true, if_true, if_false, exists_eq_left', exists_eq', exists_eq, ne_eq, Try.f43, tb43_39, tb43_63, spVFrm_q, spVFrm_A, spVFrm_pre, spVFrm_post, spSzd_q, spSzd_A, spSzd_pre, spSzd_post, spHasC_q, spHasC_A, spHasC_pre, spHasC_post]
  repeat' (first | apply And.intro | (intro _) | omega | assumption | with_reducible rfl)
  all_goals (first | ((have h9 := wh_bd ‹szd f.w f.h = true›; omega); done) | ((simp [vFrm, *]; done); done) | (simp_all [vFrm]; done) | (grind [vFrm]; done))
theorem sat_impl_Frame_valid : Sat Try.prog rt0 43 (wkIn spVFrm) := sat_in (sat_out sat_impl_Frame_valid_0)
theorem frm_bad {f : Frm} {i : Int} {k : Colr} (h : f.px[i.toNat]? = some k) (hv : vCol k = false) : vFrm f = false := by
  have h9 := all_bad (p := vCol) h hv
  simp [vFrm, h9]
theorem frm_end {f : Frm} {i : Int} (h : ¬ i < (f.px.length : Int)) (h2 : (f.px.take i.toNat).all vCol = true) : f.px.all vCol = true := by rwa [takeA (by omega)] at h2
def tb45 : Nat → Option VE.Spec := tabOf [(66, wkIn spVCol), (41, wkIn spSzd)]
theorem tb45_66 : tb45 66 = some (wkIn spVCol) := rfl
theorem tb45_41 : tb45 41 = some (wkIn spSzd) := rfl
theorem tb45_ok : TabOK Try.prog rt0 tb45 := (tabOf_cons (by kernel_rfl) sat_spec_validColor (tabOf_cons (by kernel_rfl) sat_spec_validSize tabOf_nil))
set_option maxHeartbeats 4000000 in
theorem sat_spec_validFrame_0 : Sat Try.prog rt0 45 (wkOut spVFrm) := by
  refine fn_sat hm ttok (tab := tb45) tb45_ok Try.func45 (c := Try.f45.body.getD .skip) (by kernel_rfl) (ts := [.tmp 2]) (by kernel_rfl) Try.ntmps45 (sq := fun _ => true) (by kernel_rfl) ?_
  intro args ins pk hpre0 hpk
  obtain ⟨rfl, hpre0⟩ := hpre0
  obtain ⟨f, rfl, hpre, hdec⟩ := famPre_ex hpre0
  clear hpre0 hdec
  try simp only [spVFrm_pre] at hpre
  replace hpk : pk + 0 ≤ pickLimit := hpk
  refine ⟨Nat.le_of_ble_eq_true rfl, ?_⟩
  simp (config := { maxSteps := 1000000 }) only [go_sem, ↓ifP_true, ↓ifP_false, ↓ifP_not, Nat.reduceLT, Nat.reduceAdd, Nat.reduceBEq, Nat.reduceSub, Nat.reduceLeDiff, Nat.reduceEqDiff, Nat.reduceMul, Int.reduceToNat, Int.reduceEq, Int.reduceLT, Int.reduceLE, Int.reduceAdd, Int.reduceSub, Int.reduceMul, reduceCtorEq, cond_true, cond_false, forall_eq', forall_eq, forall_const, implies_true, if_true, if_false, exists_eq_left', exists_eq', exists_eq, ne_eq, Try.f45, tb45_66, tb45_41, spVFrm_q, spVFrm_A, spVFrm_pre, spVFrm_post, spVCol_q, spVCol_A, spVCol_pre, spVCol_post, spSzd_q, spSzd_A, spSzd_pre, spSzd_post]
  repeat' (first | apply And.intro | (intro _) | omega | assumption | with_reducible rfl)
  refine loopS (α := Int) false [0, 2, 3, 4, 5, 6, 7, 8, 9, 10, 11, 12, 13, 14, 15, 16, 17] (fun σ => []) (fun σ x => [(3, I x)]) (fun σ x => []) (fun i => 0) (fun σ => gI (σ.get 3)) (fun σ τ => []) (fun i => 0 ≤ i ∧ i ≤ f.px.length ∧ (f.px.take i.toNat).all vCol = true) (fun i => (f.px.length - i).toNat) ⟨by (simp (config := { maxSteps := 1000000 }) only [go_sem, ↓ifP_true, ↓ifP_false, ↓ifP_not, Nat.reduceLT, Nat.reduceAdd, Nat.reduceBEq, Nat.reduceSub, Nat.reduceLeDiff, Nat.reduceEqDiff, Nat.reduceMul, Int.reduceToNat, Int.reduceEq, Int.reduceLT, Int.reduceLE, Int.reduceAdd, Int.reduceSub, Int.reduceMul, reduceCtorEq, cond_true, cond_false, forall_eq', forall_eq, forall_const, implies_true, if_true, if_false, exists_eq_left', exists_eq', exists_eq, ne_eq, Try.f45, tb45_66, tb45_41, spVFrm_q, spVFrm_A, spVFrm_pre, spVFrm_post, spVCol_q, spVCol_A, spVCol_pre, spVCol_post, spSzd_q, spSzd_A, spSzd_pre, spSzd_post]; (repeat' (first | apply And.intro | (intro _) | omega | assumption | with_reducible rfl))), ?_⟩
  rintro i hinv
  try dsimp only at hinv
  rcases elemAt f.px i (by omega) with ⟨hlt, k, hk⟩ | hlt
  all_goals (first | ((have hlt2 := of_eq_true hlt); all_goals simp (config := { maxSteps := 1000000 }) only [go_sem, ↓ifP_true, ↓ifP_false, ↓ifP_not, Nat.reduceLT, Nat.reduceAdd, Nat.reduceBEq, Nat.reduceSub, Nat.reduceLeDiff, Nat.reduceEqDiff, Nat.reduceMul, Int.reduceToNat, Int.reduceEq, Int.reduceLT, Int.reduceLE, Int.reduceAdd, Int.reduceSub, Int.reduceMul, reduceCtorEq, cond_true, cond_false, forall_eq', forall_eq, forall_const, implies_true, if_true, if_false, exists_eq_left', exists_eq', exists_eq, ne_eq, Try.f45, tb45_66, tb45_41, spVFrm_q, spVFrm_A, spVFrm_pre, spVFrm_post, spVCol_q, spVCol_A, spVCol_pre, spVCol_post, spSzd_q, spSzd_A, spSzd_pre, spSzd_post, hlt, hk]) | (have hlt2 := of_eq_false hlt; simp (config := { maxSteps := 1000000 }) only [go_sem, ↓ifP_true, ↓ifP_false, ↓ifP_not, Nat.reduceLT, Nat.reduceAdd, Nat.reduceBEq, Nat.reduceSub, Nat.reduceLeDiff, Nat.reduceEqDiff, Nat.reduceMul, Int.reduceToNat, Int.reduceEq, Int.reduceLT, Int.reduceLE, Int.reduceAdd, Int.reduceSub, Int.reduceMul, reduceCtorEq, cond_true, cond_false, forall_eq', forall_eq, forall_const, implies_true, if_true, if_false, exists_eq_left', exists_eq', exists_eq, ne_eq, Try.f45, tb45_66, tb45_41, spVFrm_q, spVFrm_A, spVFrm_pre, spVFrm_post, spVCol_q, spVCol_A, spVCol_pre, spVCol_post, spSzd_q, spSzd_A, spSzd_pre, spSzd_post, hlt]))
  all_goals
    repeat' (first | apply And.intro | (intro _) | omega | assumption | with_reducible rfl)
  all_goals (first | ((have h9 := wh_bd ‹szd f.w f.h = true›; omega); done) | ((rw [takeN hk hinv.1, List.all_append, hinv.2.2]; simp [*]); done) | ((rw [frm_bad hk ‹_›]; rfl); done) | ((rw [frm_bad hk ‹_›]); done) | ((have h9 := frm_end hlt2 hinv.2.2; simp [vFrm, *]; done); done) | ((have h9 := frm_end hlt2 hinv.2.2; simp_all [vFrm]); done))
theorem sat_spec_validFrame : Sat Try.prog rt0 45 (wkIn spVFrm) := sat_in (sat_out sat_spec_validFrame_0)
end Go.Proofs.Ytofelomoieamoaa
