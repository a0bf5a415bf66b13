/- Contracts of functions of the program vectorraster, each proved for all states that fit its description. No conditions. -/
import Derived.Test.YtofelomoieamoaaPO
import Derived.Test.YtofelomoieamoaaPD
set_option linter.unusedSimpArgs false
set_option linter.unusedVariables false
section
set_option maxRecDepth 100000
set_option linter.unusedSimpArgs false
set_option linter.unusedVariables false
namespace Go.Proofs.Ytofelomoieamoaa
open Go Go.VE
def spNCol_A : Colr → List AV
  | c => [.agg (coC c)]
def spNCol_pre : Colr → Prop
  | c => True
def spNCol_post : Colr → AV → List Box → Prop
  | c, r, bs => r = B (!vCol c) ∧ bs = []
def spNCol : VE.Spec := famSpec spNCol_A d_co spNCol_pre spNCol_post 0 true
theorem spNCol_q : spNCol.flat = true ∧ spNCol.mt = [] ∧ spNCol.shut = false ∧ spNCol.cost = 0 ∧ (∀ a i, spNCol.pre a i = (i = [] ∧ famPre d_co spNCol_A spNCol_pre a)) ∧ ∀ a i r b, spNCol.post a i r b = (famPost d_co spNCol_post a r b) := ⟨rfl, rfl, rfl, rfl, fun _ _ => rfl, fun _ _ _ _ => rfl⟩
def tb64 : Nat → Option VE.Spec := tabOf [(65, wkIn spVCol)]
theorem tb64_65 : tb64 65 = some (wkIn spVCol) := rfl
theorem tb64_ok : TabOK Try.prog rt0 tb64 := (tabOf_cons (by kernel_rfl) sat_impl_ValidColor tabOf_nil)
set_option maxHeartbeats 4000000 in
theorem sat_impl_Frame_valid_1_0 : Sat Try.prog rt0 64 (wkOut spNCol) := by
  refine fn_sat hm ttok (tab := tb64) tb64_ok Try.func64 (c := Try.f64.body.getD .skip) (by kernel_rfl) (ts := [.tmp 2]) (by kernel_rfl) Try.ntmps64 (sq := fun _ => true) (by kernel_rfl) ?_
  intro args ins pk hpre0 hpk
  obtain ⟨rfl, hpre0⟩ := hpre0
  obtain ⟨c, rfl, hpre, hdec⟩ := famPre_ex hpre0
  clear hpre0 hdec
  try simp only [spNCol_pre] at hpre
  replace hpk : pk + 0 ≤ pickLimit := hpk
  refine ⟨Nat.le_of_ble_eq_true rfl, ?_⟩
  simp (config := { maxSteps := 1000000 }) only [go_sem, ↓ifP_true, ↓ifP_false, ↓ifP_not, Nat.reduceLT, Nat.reduceAdd, Nat.reduceBEq, Nat.reduceSub, Nat.reduceLeDiff, Nat.reduceEqDiff, Nat.reduceMul, Int.reduceToNat, Int.reduceEq, Int.reduceLT, Int.reduceLE, Int.reduceAdd, Int.reduceSub, Int.reduceMul, reduceCtorEq, cond_true, cond_false, forall_eq', forall_eq, forall_const, implies_true, if_true, if_false, exists_eq_left', exists_eq', exists_eq, ne_eq, Try.f64, tb64_65, spNCol_q, spNCol_A, spNCol_pre, spNCol_post, spVCol_q, spVCol_A, spVCol_pre, spVCol_post]
  repeat' (first | apply And.intro | (intro _) | omega | assumption | with_reducible rfl)
theorem sat_impl_Frame_valid_1 : Sat Try.prog rt0 64 (wkIn spNCol) := sat_in (sat_out sat_impl_Frame_valid_1_0)
def spIdxC_A : (List Colr) → List AV
  | l => [.c (.sl false (l.map coC)), .c (.fn 64 [])]
def spIdxC_pre : (List Colr) → Prop
  | l => l.length ≤ 1000000000
def spIdxC_post : (List Colr) → AV → List Box → Prop
  | l, r, bs => ∃ m, r = I m ∧ bs = [] ∧ decide (0 ≤ m) = (!l.all vCol)
def spIdxC : VE.Spec := famSpec spIdxC_A d_lco_f64 spIdxC_pre spIdxC_post 0 true
theorem spIdxC_q : spIdxC.flat = true ∧ spIdxC.mt = [] ∧ spIdxC.shut = false ∧ spIdxC.cost = 0 ∧ (∀ a i, spIdxC.pre a i = (i = [] ∧ famPre d_lco_f64 spIdxC_A spIdxC_pre a)) ∧ ∀ a i r b, spIdxC.post a i r b = (famPost d_lco_f64 spIdxC_post a r b) := ⟨rfl, rfl, rfl, rfl, fun _ _ => rfl, fun _ _ _ _ => rfl⟩
def tb74 : Nat → Option VE.Spec := tabOf [(64, wkIn spNCol)]
theorem tb74_64 : tb74 64 = some (wkIn spNCol) := rfl
theorem tb74_ok : TabOK Try.prog rt0 tb74 := (tabOf_cons (by kernel_rfl) sat_impl_Frame_valid_1 tabOf_nil)
set_option maxHeartbeats 4000000 in
theorem sat_slices_IndexFunc_impl_Color_impl_Color_0 : Sat Try.prog rt0 74 (wkOut spIdxC) := by
  refine fn_sat hm ttok (tab := tb74) tb74_ok Try.func74 (c := Try.f74.body.getD .skip) (by kernel_rfl) (ts := [.tmp 4]) (by kernel_rfl) Try.ntmps74 (sq := fun _ => true) (by kernel_rfl) ?_
  intro args ins pk hpre0 hpk
  obtain ⟨rfl, hpre0⟩ := hpre0
  obtain ⟨l, rfl, hpre, hdec⟩ := famPre_ex hpre0
  clear hpre0 hdec
  try simp only [spIdxC_pre] at hpre
  replace hpk : pk + 0 ≤ pickLimit := hpk
  refine ⟨Nat.le_of_ble_eq_true rfl, ?_⟩
  simp (config := { maxSteps := 1000000 }) only [go_sem, ↓ifP_true, ↓ifP_false, ↓ifP_not, Nat.reduceLT, Nat.reduceAdd, Nat.reduceBEq, Nat.reduceSub, Nat.reduceLeDiff, Nat.reduceEqDiff, Nat.reduceMul, Int.reduceToNat, Int.reduceEq, Int.reduceLT, Int.reduceLE, Int.reduceAdd, Int.reduceSub, Int.reduceMul, reduceCtorEq, cond_true, cond_false, forall_eq', forall_eq, forall_const, implies_true, if_true, if_false, exists_eq_left', exists_eq', exists_eq, ne_eq, Try.f74, tb74_64, spIdxC_q, spIdxC_A, spIdxC_pre, spIdxC_post, spNCol_q, spNCol_A, spNCol_pre, spNCol_post]
  repeat' (first | apply And.intro | (intro _) | omega | assumption | with_reducible rfl)
  refine loopS (α := Int) false [2, 3, 4, 5, 6, 8, 9, 10, 11, 12, 13, 14, 15, 16, 17, 18] (fun σ => []) (fun σ x => [(8, I x)]) (fun σ x => []) (fun i => 0) (fun σ => gI (σ.get 8)) (fun σ τ => []) (fun i => 0 ≤ i ∧ i ≤ l.length ∧ (l.take i.toNat).all vCol = true) (fun i => (l.length - i).toNat) ⟨by (simp (config := { maxSteps := 1000000 }) only [go_sem, ↓ifP_true, ↓ifP_false, ↓ifP_not, Nat.reduceLT, Nat.reduceAdd, Nat.reduceBEq, Nat.reduceSub, Nat.reduceLeDiff, Nat.reduceEqDiff, Nat.reduceMul, Int.reduceToNat, Int.reduceEq, Int.reduceLT, Int.reduceLE, Int.reduceAdd, Int.reduceSub, Int.reduceMul, reduceCtorEq, cond_true, cond_false, forall_eq', forall_eq, forall_const, implies_true, if_true, if_false, exists_eq_left', exists_eq', exists_eq, ne_eq, Try.f74, tb74_64, spIdxC_q, spIdxC_A, spIdxC_pre, spIdxC_post, spNCol_q, spNCol_A, spNCol_pre, spNCol_post]; (repeat' (first | apply And.intro | (intro _) | omega | assumption | with_reducible rfl))), ?_⟩
  rintro i hinv
  try dsimp only at hinv
  simp (config := { maxSteps := 1000000 }) only [go_sem, ↓ifP_true, ↓ifP_false, ↓ifP_not, Nat.reduceLT, Nat.reduceAdd, Nat.reduceBEq, Nat.reduceSub, Nat.reduceLeDiff, Nat.reduceEqDiff, Nat.reduceMul, Int.reduceToNat, Int.reduceEq, Int.reduceLT, Int.reduceLE, Int.reduceAdd, Int.reduceSub, Int.reduceMul, reduceCtorEq, cond_true, cond_false, forall_eq', forall_eq, forall_const, implies_true, if_true, if_false, exists_eq_left', exists_eq', exists_eq, ne_eq, Try.f74, tb74_64, spIdxC_q, spIdxC_A, spIdxC_pre, spIdxC_post, spNCol_q, spNCol_A, spNCol_pre, spNCol_post]
  repeat' (first | apply And.intro | (intro _) | omega | assumption | with_reducible rfl)
  all_goals (first | (grind [→ takeN, takeA, all_bad]; done))
theorem sat_slices_IndexFunc_impl_Color_impl_Color : Sat Try.prog rt0 74 (wkIn spIdxC) := sat_in (sat_out sat_slices_IndexFunc_impl_Color_impl_Color_0)
def spHasC_A : (List Colr) → List AV
  | l => [.c (.sl false (l.map coC)), .c (.fn 64 [])]
def spHasC_pre : (List Colr) → Prop
  | l => l.length ≤ 1000000000
def spHasC_post : (List Colr) → AV → List Box → Prop
  | l, r, bs => r = B (!l.all vCol) ∧ bs = []
def spHasC : VE.Spec := famSpec spHasC_A d_lco_f64 spHasC_pre spHasC_post 0 true
theorem spHasC_q : spHasC.flat = true ∧ spHasC.mt = [] ∧ spHasC.shut = false ∧ spHasC.cost = 0 ∧ (∀ a i, spHasC.pre a i = (i = [] ∧ famPre d_lco_f64 spHasC_A spHasC_pre a)) ∧ ∀ a i r b, spHasC.post a i r b = (famPost d_lco_f64 spHasC_post a r b) := ⟨rfl, rfl, rfl, rfl, fun _ _ => rfl, fun _ _ _ _ => rfl⟩
def tb63 : Nat → Option VE.Spec := tabOf [(74, wkIn spIdxC)]
theorem tb63_74 : tb63 74 = some (wkIn spIdxC) := rfl
theorem tb63_ok : TabOK Try.prog rt0 tb63 := (tabOf_cons (by kernel_rfl) sat_slices_IndexFunc_impl_Color_impl_Color tabOf_nil)
set_option maxHeartbeats 4000000 in
theorem sat_slices_ContainsFunc_impl_Color_impl_Color_0 : Sat Try.prog rt0 63 (wkOut spHasC) := by
  refine fn_sat hm ttok (tab := tb63) tb63_ok Try.func63 (c := Try.f63.body.getD .skip) (by kernel_rfl) (ts := [.tmp 4]) (by kernel_rfl) Try.ntmps63 (sq := fun _ => true) (by kernel_rfl) ?_
  intro args ins pk hpre0 hpk
  obtain ⟨rfl, hpre0⟩ := hpre0
  obtain ⟨l, rfl, hpre, hdec⟩ := famPre_ex hpre0
  clear hpre0 hdec
  try simp only [spHasC_pre] at hpre
  replace hpk : pk + 0 ≤ pickLimit := hpk
  refine ⟨Nat.le_of_ble_eq_true rfl, ?_⟩
  simp (config := { maxSteps := 1000000 }) only [go_sem, ↓ifP_true, ↓ifP_false, ↓ifP_not, Nat.reduceLT, Nat.reduceAdd, Nat.reduceBEq, Nat.reduceSub, Nat.reduceLeDiff, Nat.reduceEqDiff, Nat.reduceMul, Int.reduceToNat, Int.reduceEq, Int.reduceLT, Int.reduceLE, Int.reduceAdd, Int.reduceSub, Int.reduceMul, reduceCtorEq, cond_true, cond_false, forall_eq', forall_eq, forall_const, implies_true, if_true, if_false, exists_eq_left', exists_eq', exists_eq, ne_eq, Try.f63, tb63_74, spHasC_q, spHasC_A, spHasC_pre, spHasC_post, spIdxC_q, spIdxC_A, spIdxC_pre, spIdxC_post]
  repeat' (first | apply And.intro | (intro _) | omega | assumption | with_reducible rfl)
  all_goals (first | (grind; done))
theorem sat_slices_ContainsFunc_impl_Color_impl_Color : Sat Try.prog rt0 63 (wkIn spHasC) := sat_in (sat_out sat_slices_ContainsFunc_impl_Color_impl_Color_0)
def spVFrm_A : Frm → List AV
  | f => [.agg (frC f)]
def spVFrm_pre : Frm → Prop
  | f => f.px.length ≤ 1000000000
def spVFrm_post : Frm → AV → List Box → Prop
  | f, r, bs => r = B (vFrm f) ∧ bs = []
def spVFrm : VE.Spec := famSpec spVFrm_A d_fr spVFrm_pre spVFrm_post 0 true
theorem spVFrm_q : spVFrm.flat = true ∧ spVFrm.mt = [] ∧ spVFrm.shut = false ∧ spVFrm.cost = 0 ∧ (∀ a i, spVFrm.pre a i = (i = [] ∧ famPre d_fr spVFrm_A spVFrm_pre a)) ∧ ∀ a i r b, spVFrm.post a i r b = (famPost d_fr spVFrm_post a r b) := ⟨rfl, rfl, rfl, rfl, fun _ _ => rfl, fun _ _ _ _ => rfl⟩
def tb43 : Nat → Option VE.Spec := tabOf [(39, wkIn spSzd), (63, wkIn spHasC)]
theorem tb43_39 : tb43 39 = some (wkIn spSzd) := rfl
theorem tb43_63 : tb43 63 = some (wkIn spHasC) := rfl
theorem tb43_ok : TabOK Try.prog rt0 tb43 := (tabOf_cons (by kernel_rfl) sat_impl_sized (tabOf_cons (by kernel_rfl) sat_slices_ContainsFunc_impl_Color_impl_Color tabOf_nil))
set_option maxHeartbeats 4000000 in
theorem sat_impl_Frame_valid_0 : Sat Try.prog rt0 43 (wkOut spVFrm) := by
  refine fn_sat hm ttok (tab := tb43) tb43_ok Try.func43 (c := Try.f43.body.getD .skip) (by kernel_rfl) (ts := [.tmp 2]) (by kernel_rfl) Try.ntmps43 (sq := fun _ => true) (by kernel_rfl) ?_
  intro args ins pk hpre0 hpk
  obtain ⟨rfl, hpre0⟩ := hpre0
  obtain ⟨f, rfl, hpre, hdec⟩ := famPre_ex hpre0
  clear hpre0 hdec
  try simp only [spVFrm_pre] at hpre
  replace hpk : pk + 0 ≤ pickLimit := hpk
  refine ⟨Nat.le_of_ble_eq_true rfl, ?_⟩
  simp (config := { maxSteps := 1000000 }) only [go_sem, ↓ifP_true, ↓ifP_false, ↓ifP_not, Nat.reduceLT, Nat.reduceAdd, Nat.reduceBEq, Nat.reduceSub, Nat.reduceLeDiff, Nat.reduceEqDiff, Nat.reduceMul, Int.reduceToNat, Int.reduceEq, Int.reduceLT, Int.reduceLE, Int.reduceAdd, Int.reduceSub, Int.reduceMul, reduceCtorEq, cond_true, cond_false, forall_eq', forall_eq, forall_const, implies_true, if_true, if_false, exists_eq_left', exists_eq', exists_eq, ne_eq, Try.f43, tb43_39, tb43_63, spVFrm_q, spVFrm_A, spVFrm_pre, spVFrm_post, spSzd_q, spSzd_A, spSzd_pre, spSzd_post, spHasC_q, spHasC_A, spHasC_pre, spHasC_post]
  repeat' (first | apply And.intro | (intro _) | omega | assumption | with_reducible rfl)
  all_goals (first | ((have h9 := wh_bd ‹szd f.w f.h = true›; omega); done) | ((simp [vFrm, *]; done); done) | (simp_all [vFrm]; done) | (grind [vFrm]; done))
theorem sat_impl_Frame_valid : Sat Try.prog rt0 43 (wkIn spVFrm) := sat_in (sat_out sat_impl_Frame_valid_0)
theorem frm_bad {f : Frm} {i : Int} {k : Colr} (h : f.px[i.toNat]? = some k) (hv : vCol k = false) : vFrm f = false := by
  have h9 := all_bad (p := vCol) h hv
  simp [vFrm, h9]
theorem frm_end {f : Frm} {i : Int} (h : ¬ i < (f.px.length : Int)) (h2 : (f.px.take i.toNat).all vCol = true) : f.px.all vCol = true := by rwa [takeA (by omega)] at h2
def tb45 : Nat → Option VE.Spec := tabOf [(66, wkIn spVCol), (41, wkIn spSzd)]
theorem tb45_66 : tb45 66 = some (wkIn spVCol) := rfl
theorem tb45_41 : tb45 41 = some (wkIn spSzd) := rfl
theorem tb45_ok : TabOK Try.prog rt0 tb45 := (tabOf_cons (by kernel_rfl) sat_spec_validColor (tabOf_cons (by kernel_rfl) sat_spec_validSize tabOf_nil))
set_option maxHeartbeats 4000000 in
theorem sat_spec_validFrame_0 : Sat Try.prog rt0 45 (wkOut spVFrm) := by
  refine fn_sat hm ttok (tab := tb45) tb45_ok Try.func45 (c := Try.f45.body.getD .skip) (by kernel_rfl) (ts := [.tmp 2]) (by kernel_rfl) Try.ntmps45 (sq := fun _ => true) (by kernel_rfl) ?_
  intro args ins pk hpre0 hpk
  obtain ⟨rfl, hpre0⟩ := hpre0
  obtain ⟨f, rfl, hpre, hdec⟩ := famPre_ex hpre0
  clear hpre0 hdec
  try simp only [spVFrm_pre] at hpre
  replace hpk : pk + 0 ≤ pickLimit := hpk
  refine ⟨Nat.le_of_ble_eq_true rfl, ?_⟩
  simp (config := { maxSteps := 1000000 }) only [go_sem, ↓ifP_true, ↓ifP_false, ↓ifP_not, Nat.reduceLT, Nat.reduceAdd, Nat.reduceBEq, Nat.reduceSub, Nat.reduceLeDiff, Nat.reduceEqDiff, Nat.reduceMul, Int.reduceToNat, Int.reduceEq, Int.reduceLT, Int.reduceLE, Int.reduceAdd, Int.reduceSub, Int.reduceMul, reduceCtorEq, cond_true, cond_false, forall_eq', forall_eq, forall_const, implies_true, if_true, if_false, exists_eq_left', exists_eq', exists_eq, ne_eq, Try.f45, tb45_66, tb45_41, spVFrm_q, spVFrm_A, spVFrm_pre, spVFrm_post, spVCol_q, spVCol_A, spVCol_pre, spVCol_post, spSzd_q, spSzd_A, spSzd_pre, spSzd_post]
  repeat' (first | apply And.intro | (intro _) | omega | assumption | with_reducible rfl)
  refine loopS (α := Int) false [0, 2, 3, 4, 5, 6, 7, 8, 9, 10, 11, 12, 13, 14, 15, 16, 17] (fun σ => []) (fun σ x => [(3, I x)]) (fun σ x => []) (fun i => 0) (fun σ => gI (σ.get 3)) (fun σ τ => []) (fun i => 0 ≤ i ∧ i ≤ f.px.length ∧ (f.px.take i.toNat).all vCol = true) (fun i => (f.px.length - i).toNat) ⟨by (simp (config := { maxSteps := 1000000 }) only [go_sem, ↓ifP_true, ↓ifP_false, ↓ifP_not, Nat.reduceLT, Nat.reduceAdd, Nat.reduceBEq, Nat.reduceSub, Nat.reduceLeDiff, Nat.reduceEqDiff, Nat.reduceMul, Int.reduceToNat, Int.reduceEq, Int.reduceLT, Int.reduceLE, Int.reduceAdd, Int.reduceSub, Int.reduceMul, reduceCtorEq, cond_true, cond_false, forall_eq', forall_eq, forall_const, implies_true, if_true, if_false, exists_eq_left', exists_eq', exists_eq, ne_eq, Try.f45, tb45_66, tb45_41, spVFrm_q, spVFrm_A, spVFrm_pre, spVFrm_post, spVCol_q, spVCol_A, spVCol_pre, spVCol_post, spSzd_q, spSzd_A, spSzd_pre, spSzd_post]; (repeat' (first | apply And.intro | (intro _) | omega | assumption | with_reducible rfl))), ?_⟩
  rintro i hinv
  try dsimp only at hinv
  rcases elemAt f.px i (by omega) with ⟨hlt, k, hk⟩ | hlt
  all_goals (first | ((have hlt2 := of_eq_true hlt); all_goals simp (config := { maxSteps := 1000000 }) only [go_sem, ↓ifP_true, ↓ifP_false, ↓ifP_not, Nat.reduceLT, Nat.reduceAdd, Nat.reduceBEq, Nat.reduceSub, Nat.reduceLeDiff, Nat.reduceEqDiff, Nat.reduceMul, Int.reduceToNat, Int.reduceEq, Int.reduceLT, Int.reduceLE, Int.reduceAdd, Int.reduceSub, Int.reduceMul, reduceCtorEq, cond_true, cond_false, forall_eq', forall_eq, forall_const, implies_true, if_true, if_false, exists_eq_left', exists_eq', exists_eq, ne_eq, Try.f45, tb45_66, tb45_41, spVFrm_q, spVFrm_A, spVFrm_pre, spVFrm_post, spVCol_q, spVCol_A, spVCol_pre, spVCol_post, spSzd_q, spSzd_A, spSzd_pre, spSzd_post, hlt, hk]) | (have hlt2 := of_eq_false hlt; simp (config := { maxSteps := 1000000 }) only [go_sem, ↓ifP_true, ↓ifP_false, ↓ifP_not, Nat.reduceLT, Nat.reduceAdd, Nat.reduceBEq, Nat.reduceSub, Nat.reduceLeDiff, Nat.reduceEqDiff, Nat.reduceMul, Int.reduceToNat, Int.reduceEq, Int.reduceLT, Int.reduceLE, Int.reduceAdd, Int.reduceSub, Int.reduceMul, reduceCtorEq, cond_true, cond_false, forall_eq', forall_eq, forall_const, implies_true, if_true, if_false, exists_eq_left', exists_eq', exists_eq, ne_eq, Try.f45, tb45_66, tb45_41, spVFrm_q, spVFrm_A, spVFrm_pre, spVFrm_post, spVCol_q, spVCol_A, spVCol_pre, spVCol_post, spSzd_q, spSzd_A, spSzd_pre, spSzd_post, hlt]))
  all_goals
    repeat' (first | apply And.intro | (intro _) | omega | assumption | with_reducible rfl)
  all_goals (first | ((have h9 := wh_bd ‹szd f.w f.h = true›; omega); done) | ((rw [takeN hk hinv.1, List.all_append, hinv.2.2]; simp [*]); done) | ((rw [frm_bad hk ‹_›]; rfl); done) | ((rw [frm_bad hk ‹_›]); done) | ((have h9 := frm_end hlt2 hinv.2.2; simp [vFrm, *]; done); done) | ((have h9 := frm_end hlt2 hinv.2.2; simp_all [vFrm]); done))
theorem sat_spec_validFrame : Sat Try.prog rt0 45 (wkIn spVFrm) := sat_in (sat_out sat_spec_validFrame_0)
end Go.Proofs.Ytofelomoieamoaa
end
section
set_option maxRecDepth 100000
set_option linter.unusedSimpArgs false
set_option linter.unusedVariables false
namespace Go.Proofs.Ytofelomoieamoaa
open Go Go.VE
def rnd (a b : Int) : Int := (2 * a + b) / (2 * b)
def plainC (r g b a : Int) : Colr := ⟨rnd (r * a) 255, rnd (g * a) 255, rnd (b * a) 255, a⟩
def spRnd_A : Int × Int → List AV
  | (a, b) => [I a, I b]
def spRnd_pre : Int × Int → Prop
  | (a, b) => 1 ≤ b ∧ b ≤ 1000000000000 ∧ -1000000000000 ≤ a ∧ a ≤ 1000000000000
def spRnd_post : Int × Int → AV → List Box → Prop
  | (a, b), r, bs => r = I (rnd a b) ∧ bs = []
def spRnd : VE.Spec := famSpec spRnd_A d_i_i spRnd_pre spRnd_post 0 true
theorem spRnd_q : spRnd.flat = true ∧ spRnd.mt = [] ∧ spRnd.shut = false ∧ spRnd.cost = 0 ∧ (∀ a i, spRnd.pre a i = (i = [] ∧ famPre d_i_i spRnd_A spRnd_pre a)) ∧ ∀ a i r b, spRnd.post a i r b = (famPost d_i_i spRnd_post a r b) := ⟨rfl, rfl, rfl, rfl, fun _ _ => rfl, fun _ _ _ _ => rfl⟩
def tb79 : Nat → Option VE.Spec := tabOf [(80, wkIn spFloor)]
theorem tb79_80 : tb79 80 = some (wkIn spFloor) := rfl
theorem tb79_ok : TabOK Try.prog rt0 tb79 := (tabOf_cons (by kernel_rfl) sat_spec_floorDiv tabOf_nil)
set_option maxHeartbeats 4000000 in
theorem sat_spec_nearest_0 : Sat Try.prog rt0 79 (wkOut spRnd) := by
  refine fn_sat hm ttok (tab := tb79) tb79_ok Try.func79 (c := Try.f79.body.getD .skip) (by kernel_rfl) (ts := [.tmp 4]) (by kernel_rfl) Try.ntmps79 (sq := fun _ => true) (by kernel_rfl) ?_
  intro args ins pk hpre0 hpk
  obtain ⟨rfl, hpre0⟩ := hpre0
  obtain ⟨⟨a, b⟩, rfl, hpre, hdec⟩ := famPre_ex hpre0
  clear hpre0 hdec
  try simp only [spRnd_pre] at hpre
  replace hpk : pk + 0 ≤ pickLimit := hpk
  refine ⟨Nat.le_of_ble_eq_true rfl, ?_⟩
  simp (config := { maxSteps := 1000000 }) only [go_sem, ↓ifP_true, ↓ifP_false, ↓ifP_not, Nat.reduceLT, Nat.reduceAdd, Nat.reduceBEq, Nat.reduceSub, Nat.reduceLeDiff, Nat.reduceEqDiff, Nat.reduceMul, Int.reduceToNat, Int.reduceEq, Int.reduceLT, Int.reduceLE, Int.reduceAdd, Int.reduceSub, Int.reduceMul, reduceCtorEq, cond_true, cond_false, forall_eq', forall_eq, forall_const, implies_true, if_true, if_false, exists_eq_left', exists_eq', exists_eq, ne_eq, Try.f79, tb79_80, spRnd_q, spRnd_A, spRnd_pre, spRnd_post, spFloor_q, spFloor_A, spFloor_pre, spFloor_post]
  repeat' (first | apply And.intro | (intro _) | omega | assumption | with_reducible rfl)
  all_goals (first | (rfl; done))
theorem sat_spec_nearest : Sat Try.prog rt0 79 (wkIn spRnd) := sat_in (sat_out sat_spec_nearest_0)
def spPlain_A : Int × Int × Int × Int → List AV
  | (e, g, b, a) => [I e, I g, I b, I a]
def spPlain_pre : Int × Int × Int × Int → Prop
  | (e, g, b, a) => (0 ≤ e ∧ e ≤ 1000) ∧ (0 ≤ g ∧ g ≤ 1000) ∧ (0 ≤ b ∧ b ≤ 1000) ∧ 0 ≤ a ∧ a ≤ 1000
def spPlain_post : Int × Int × Int × Int → AV → List Box → Prop
  | (e, g, b, a), r, bs => r = .agg (coC (plainC e g b a)) ∧ bs = []
def spPlain : VE.Spec := famSpec spPlain_A d_i_i_i_i spPlain_pre spPlain_post 0 true
theorem spPlain_q : spPlain.flat = true ∧ spPlain.mt = [] ∧ spPlain.shut = false ∧ spPlain.cost = 0 ∧ (∀ a i, spPlain.pre a i = (i = [] ∧ famPre d_i_i_i_i spPlain_A spPlain_pre a)) ∧ ∀ a i r b, spPlain.post a i r b = (famPost d_i_i_i_i spPlain_post a r b) := ⟨rfl, rfl, rfl, rfl, fun _ _ => rfl, fun _ _ _ _ => rfl⟩
def tb78 : Nat → Option VE.Spec := tabOf [(79, wkIn spRnd)]
theorem tb78_79 : tb78 79 = some (wkIn spRnd) := rfl
theorem tb78_ok : TabOK Try.prog rt0 tb78 := (tabOf_cons (by kernel_rfl) sat_spec_nearest tabOf_nil)
set_option maxHeartbeats 4000000 in
theorem sat_spec_plain_0 : Sat Try.prog rt0 78 (wkOut spPlain) := by
  refine fn_sat hm ttok (tab := tb78) tb78_ok Try.func78 (c := Try.f78.body.getD .skip) (by kernel_rfl) (ts := [.cell 8 44]) (by kernel_rfl) Try.ntmps78 (sq := fun _ => true) (by kernel_rfl) ?_
  intro args ins pk hpre0 hpk
  obtain ⟨rfl, hpre0⟩ := hpre0
  obtain ⟨⟨e, g, b, a⟩, rfl, hpre, hdec⟩ := famPre_ex hpre0
  clear hpre0 hdec
  try simp only [spPlain_pre] at hpre
  replace hpk : pk + 0 ≤ pickLimit := hpk
  refine ⟨Nat.le_of_ble_eq_true rfl, ?_⟩
  have m1 := mul_bd (m := 1000) (n := 1000) (show -1000 ≤ e by omega) (by omega) (show -1000 ≤ a by omega) (by omega)
  have m2 := mul_bd (m := 1000) (n := 1000) (show -1000 ≤ g by omega) (by omega) (show -1000 ≤ a by omega) (by omega)
  have m3 := mul_bd (m := 1000) (n := 1000) (show -1000 ≤ b by omega) (by omega) (show -1000 ≤ a by omega) (by omega)
  simp (config := { maxSteps := 1000000 }) only [go_sem, ↓ifP_true, ↓ifP_false, ↓ifP_not, Nat.reduceLT, Nat.reduceAdd, Nat.reduceBEq, Nat.reduceSub, Nat.reduceLeDiff, Nat.reduceEqDiff, Nat.reduceMul, Int.reduceToNat, Int.reduceEq, Int.reduceLT, Int.reduceLE, Int.reduceAdd, Int.reduceSub, Int.reduceMul, reduceCtorEq, cond_true, cond_false, forall_eq', forall_eq, forall_const, implies_true, if_true, if_false, exists_eq_left', exists_eq', exists_eq, ne_eq, Try.f78, tb78_79, spPlain_q, spPlain_A, spPlain_pre, spPlain_post, spRnd_q, spRnd_A, spRnd_pre, spRnd_post]
  repeat' (first | apply And.intro | (intro _) | omega | assumption | with_reducible rfl)
  all_goals (first | (rfl; done))
theorem sat_spec_plain : Sat Try.prog rt0 78 (wkIn spPlain) := sat_in (sat_out sat_spec_plain_0)
def spRCol_A : Unit → List AV
  | () => [.c .rdr]
def spRCol_pre : Unit → Prop
  | () => True
def spRCol_post : Unit → AV → List Box → Prop
  | (), r, bs => ∃ c : Colr, r = .agg (coC c) ∧ bs = [] ∧ 0 ≤ c.a ∧ c.a ≤ 255
def spRCol : VE.Spec := famSpec spRCol_A d_r spRCol_pre spRCol_post 4 false
theorem spRCol_q : spRCol.flat = false ∧ spRCol.mt = [] ∧ spRCol.shut = false ∧ spRCol.cost = 4 ∧ (∀ a i, spRCol.pre a i = (i = [] ∧ famPre d_r spRCol_A spRCol_pre a)) ∧ ∀ a i r b, spRCol.post a i r b = (famPost d_r spRCol_post a r b) := ⟨rfl, rfl, rfl, rfl, fun _ _ => rfl, fun _ _ _ _ => rfl⟩
def tb73 : Nat → Option VE.Spec := tabOf [(57, wkIn spPick), (58, wkIn spOne), (78, wkIn spPlain)]
theorem tb73_57 : tb73 57 = some (wkIn spPick) := rfl
theorem tb73_58 : tb73 58 = some (wkIn spOne) := rfl
theorem tb73_78 : tb73 78 = some (wkIn spPlain) := rfl
theorem tb73_ok : TabOK Try.prog rt0 tb73 := (tabOf_cons (by kernel_rfl) sat_spec_reader_pick (tabOf_cons (by kernel_rfl) sat_spec_reader_one (tabOf_cons (by kernel_rfl) sat_spec_plain tabOf_nil)))
set_option maxHeartbeats 4000000 in
theorem sat_spec_randomColor_0 : Sat Try.prog rt0 73 (wkOut spRCol) := by
  refine fn_sat hm ttok (tab := tb73) tb73_ok Try.func73 (c := Try.f73.body.getD .skip) (by kernel_rfl) (ts := [.cell 2 44]) (by kernel_rfl) Try.ntmps73 (sq := fun _ => true) (by kernel_rfl) ?_
  intro args ins pk hpre0 hpk
  obtain ⟨rfl, hpre0⟩ := hpre0
  obtain ⟨⟨⟩, rfl, hpre, hdec⟩ := famPre_ex hpre0
  clear hpre0 hdec
  try simp only [spRCol_pre] at hpre
  replace hpk : pk + 4 ≤ pickLimit := hpk
  refine ⟨Nat.le_of_ble_eq_true rfl, ?_⟩
  simp (config := { maxSteps := 1000000 }) only [go_sem, ↓ifP_true, ↓ifP_false, ↓ifP_not, Nat.reduceLT, Nat.reduceAdd, Nat.reduceBEq, Nat.reduceSub, Nat.reduceLeDiff, Nat.reduceEqDiff, Nat.reduceMul, Int.reduceToNat, Int.reduceEq, Int.reduceLT, Int.reduceLE, Int.reduceAdd, Int.reduceSub, Int.reduceMul, reduceCtorEq, cond_true, cond_false, forall_eq', forall_eq, forall_const, implies_true, if_true, if_false, exists_eq_left', exists_eq', exists_eq, ne_eq, Try.f73, tb73_57, tb73_58, tb73_78, spRCol_q, spRCol_A, spRCol_pre, spRCol_post, spPick_q, spPick_A, spPick_pre, spPick_post, spOne_q, spOne_A, spOne_pre, spOne_post, spPlain_q, spPlain_A, spPlain_pre, spPlain_post, Picks]
  repeat' (first | apply And.intro | (intro _) | omega | assumption | with_reducible rfl)
  all_goals (first | ((simp only [List.mem_cons, List.not_mem_nil, or_false, plainC] at *; omega); done))
theorem sat_spec_randomColor : Sat Try.prog rt0 73 (wkIn spRCol) := sat_in (sat_out sat_spec_randomColor_0)
def spACol_A : Unit → List AV
  | () => [.c .rdr]
def spACol_pre : Unit → Prop
  | () => True
def spACol_post : Unit → AV → List Box → Prop
  | (), r, bs => ∃ c : Colr, r = .agg (coC c) ∧ bs = []
def spACol : VE.Spec := famSpec spACol_A d_r spACol_pre spACol_post 6 false
theorem spACol_q : spACol.flat = false ∧ spACol.mt = [] ∧ spACol.shut = false ∧ spACol.cost = 6 ∧ (∀ a i, spACol.pre a i = (i = [] ∧ famPre d_r spACol_A spACol_pre a)) ∧ ∀ a i r b, spACol.post a i r b = (famPost d_r spACol_post a r b) := ⟨rfl, rfl, rfl, rfl, fun _ _ => rfl, fun _ _ _ _ => rfl⟩
def tb59 : Nat → Option VE.Spec := tabOf [(57, wkIn spPick), (58, wkIn spOne), (73, wkIn spRCol)]
theorem tb59_57 : tb59 57 = some (wkIn spPick) := rfl
theorem tb59_58 : tb59 58 = some (wkIn spOne) := rfl
theorem tb59_73 : tb59 73 = some (wkIn spRCol) := rfl
theorem tb59_ok : TabOK Try.prog rt0 tb59 := (tabOf_cons (by kernel_rfl) sat_spec_reader_pick (tabOf_cons (by kernel_rfl) sat_spec_reader_one (tabOf_cons (by kernel_rfl) sat_spec_randomColor tabOf_nil)))
set_option maxHeartbeats 4000000 in
theorem sat_spec_anyColor_0 : Sat Try.prog rt0 59 (wkOut spACol) := by
  refine fn_sat hm ttok (tab := tb59) tb59_ok Try.func59 (c := Try.f59.body.getD .skip) (by kernel_rfl) (ts := [.cell 2 44]) (by kernel_rfl) Try.ntmps59 (sq := fun _ => true) (by kernel_rfl) ?_
  intro args ins pk hpre0 hpk
  obtain ⟨rfl, hpre0⟩ := hpre0
  obtain ⟨⟨⟩, rfl, hpre, hdec⟩ := famPre_ex hpre0
  clear hpre0 hdec
  try simp only [spACol_pre] at hpre
  replace hpk : pk + 6 ≤ pickLimit := hpk
  refine ⟨Nat.le_of_ble_eq_true rfl, ?_⟩
  simp (config := { maxSteps := 1000000 }) only [go_sem, ↓ifP_true, ↓ifP_false, ↓ifP_not, Nat.reduceLT, Nat.reduceAdd, Nat.reduceBEq, Nat.reduceSub, Nat.reduceLeDiff, Nat.reduceEqDiff, Nat.reduceMul, Int.reduceToNat, Int.reduceEq, Int.reduceLT, Int.reduceLE, Int.reduceAdd, Int.reduceSub, Int.reduceMul, reduceCtorEq, cond_true, cond_false, forall_eq', forall_eq, forall_const, implies_true, if_true, if_false, exists_eq_left', exists_eq', exists_eq, ne_eq, Try.f59, tb59_57, tb59_58, tb59_73, spACol_q, spACol_A, spACol_pre, spACol_post, spPick_q, spPick_A, spPick_pre, spPick_post, spOne_q, spOne_A, spOne_pre, spOne_post, spRCol_q, spRCol_A, spRCol_pre, spRCol_post, Picks]
  repeat' (first | apply And.intro | (intro _) | omega | assumption | with_reducible rfl)
  all_goals (first | (exact ⟨⟨_, _, _, _⟩, (coC_mk _ _ _ _).symm⟩; done))
theorem sat_spec_anyColor : Sat Try.prog rt0 59 (wkIn spACol) := sat_in (sat_out sat_spec_anyColor_0)
theorem wh169 {w h : Int} (hw : 0 ≤ w ∧ w ≤ 13) (hh : 0 ≤ h ∧ h ≤ 13) : 0 ≤ w * h ∧ w * h ≤ 169 := ⟨Int.mul_nonneg hw.1 hh.1, by have := Int.mul_le_mul hw.2 hh.2 hh.1 (by omega); omega⟩
theorem ex_frm {w h : Int} {l : List Colr} (hl : l.length ≤ 200) : ∃ f : Frm, [C.v (.int .i64 w), C.v (.int .i64 h), C.sl false (List.map coC l)] = frC f ∧ f.px.length ≤ 200 := ⟨⟨w, h, l⟩, rfl, hl⟩
theorem ex_frm2 {w h : Int} {l : List Colr} {c : Colr} (hl : l.length ≤ 200) : ∃ f : Frm, [C.v (.int .i64 w), C.v (.int .i64 h), C.sl false (wkEs ((List.map coC l).set 0 (coC c)))] = frC f ∧ f.px.length ≤ 200 := ⟨⟨w, h, l.set 0 c⟩, by rw [← List.map_set, coC_wks]; rfl, by simpa using hl⟩
theorem ex_frm3 {w h : Int} {l : List Colr} {c : Colr} (hl : l.length ≤ 200) : ∃ f : Frm, [C.v (.int .i64 w), C.v (.int .i64 h), C.sl false ((List.map coC l).set 0 (coC c))] = frC f ∧ f.px.length ≤ 200 := ⟨⟨w, h, l.set 0 c⟩, by rw [← List.map_set]; rfl, by simpa using hl⟩
def spSFrm_A : Int × Int → List AV
  | (w, h) => [.c .rdr, I w, I h]
def spSFrm_pre : Int × Int → Prop
  | (w, h) => (0 ≤ w ∧ w ≤ 13) ∧ 0 ≤ h ∧ h ≤ 13
def spSFrm_post : Int × Int → AV → List Box → Prop
  | (w, h), r, bs => ∃ f : Frm, r = .agg (frC f) ∧ bs = [] ∧ f.px.length ≤ 200
def spSFrm : VE.Spec := famSpecS spSFrm_A d_r_i_i spSFrm_pre spSFrm_post 1300 false
theorem spSFrm_q : spSFrm.flat = false ∧ spSFrm.mt = [] ∧ spSFrm.shut = true ∧ spSFrm.cost = 1300 ∧ (∀ a i, spSFrm.pre a i = (i = [] ∧ famPre d_r_i_i spSFrm_A spSFrm_pre a)) ∧ ∀ a i r b, spSFrm.post a i r b = (famPost d_r_i_i spSFrm_post a r b) := ⟨rfl, rfl, rfl, rfl, fun _ _ => rfl, fun _ _ _ _ => rfl⟩
def tb69 : Nat → Option VE.Spec := tabOf [(57, wkIn spPick), (73, wkIn spRCol), (59, wkIn spACol)]
theorem tb69_57 : tb69 57 = some (wkIn spPick) := rfl
theorem tb69_73 : tb69 73 = some (wkIn spRCol) := rfl
theorem tb69_59 : tb69 59 = some (wkIn spACol) := rfl
theorem tb69_ok : TabOK Try.prog rt0 tb69 := (tabOf_cons (by kernel_rfl) sat_spec_reader_pick (tabOf_cons (by kernel_rfl) sat_spec_randomColor (tabOf_cons (by kernel_rfl) sat_spec_anyColor tabOf_nil)))
set_option maxHeartbeats 4000000 in
theorem sat_spec_someFrame_0 : Sat Try.prog rt0 69 (wkOut spSFrm) := by
  refine fn_sat hm ttok (tab := tb69) tb69_ok Try.func69 (c := Try.f69.body.getD .skip) (by kernel_rfl) (ts := [.cell 6 27]) (by kernel_rfl) Try.ntmps69 (sq := fun _ => true) (by kernel_rfl) ?_
  intro args ins pk hpre0 hpk
  obtain ⟨rfl, hpre0⟩ := hpre0
  obtain ⟨⟨w, h⟩, rfl, hpre, hdec⟩ := famPre_ex hpre0
  clear hpre0 hdec
  try simp only [spSFrm_pre] at hpre
  replace hpk : pk + 1300 ≤ pickLimit := hpk
  refine ⟨Nat.le_of_ble_eq_true rfl, ?_⟩
  have hwh := wh169 hpre.1 hpre.2
  simp (config := { maxSteps := 1000000 }) only [go_sem, ↓ifP_true, ↓ifP_false, ↓ifP_not, Nat.reduceLT, Nat.reduceAdd, Nat.reduceBEq, Nat.reduceSub, Nat.reduceLeDiff, Nat.reduceEqDiff, Nat.reduceMul, Int.reduceToNat, Int.reduceEq, Int.reduceLT, Int.reduceLE, Int.reduceAdd, Int.reduceSub, Int.reduceMul, reduceCtorEq, cond_true, cond_false, forall_eq', forall_eq, forall_const, implies_true, if_true, if_false, exists_eq_left', exists_eq', exists_eq, ne_eq, Try.f69, tb69_57, tb69_73, tb69_59, spSFrm_q, spSFrm_A, spSFrm_pre, spSFrm_post, spPick_q, spPick_A, spPick_pre, spPick_post, spRCol_q, spRCol_A, spRCol_pre, spRCol_post, spACol_q, spACol_A, spACol_pre, spACol_post, Picks]
  repeat' (first | apply And.intro | (intro _) | omega | assumption | with_reducible rfl)
  any_goals
    refine loopS (α := (List Colr) × Int) false [3, 4, 5, 7, 8, 10, 11, 12, 13, 14, 15, 16, 17, 18, 19, 20, 21, 22, 23, 24, 25, 26, 27, 28, 29, 30, 31, 32, 33, 34, 35, 36, 37, 44, 50, 55] (fun σ => [gId (σ.get 7)]) (fun σ x => [(7, .c (.own (gId (σ.get 7)) (x.1).length false)), (8, I x.2)]) (fun σ x => [(gId (σ.get 7), some ⟨(x.1).map coC, 4, 44, true, false⟩)]) (fun (o, i) => 6 * o.length) (fun σ => (gL coCd σ (σ.get 7), gI (σ.get 8))) (fun σ τ => [(gId (σ.get 7), gId (τ.get 7))]) (fun (o, i) => (0 ≤ i ∧ i ≤ w * h) ∧ (o.length : Int) = i) (fun (o, i) => (w * h - i).toNat) ⟨by (simp (config := { maxSteps := 1000000 }) only [go_sem, ↓ifP_true, ↓ifP_false, ↓ifP_not, Nat.reduceLT, Nat.reduceAdd, Nat.reduceBEq, Nat.reduceSub, Nat.reduceLeDiff, Nat.reduceEqDiff, Nat.reduceMul, Int.reduceToNat, Int.reduceEq, Int.reduceLT, Int.reduceLE, Int.reduceAdd, Int.reduceSub, Int.reduceMul, reduceCtorEq, cond_true, cond_false, forall_eq', forall_eq, forall_const, implies_true, if_true, if_false, exists_eq_left', exists_eq', exists_eq, ne_eq, Try.f69, tb69_57, tb69_73, tb69_59, spSFrm_q, spSFrm_A, spSFrm_pre, spSFrm_post, spPick_q, spPick_A, spPick_pre, spPick_post, spRCol_q, spRCol_A, spRCol_pre, spRCol_post, spACol_q, spACol_A, spACol_pre, spACol_post, Picks]; (repeat' (first | apply And.intro | (intro _) | omega | assumption | with_reducible rfl)); all_goals (first | omega)), ?_⟩
    rintro ⟨o, i⟩ hinv
    try dsimp only at hinv
    simp (config := { maxSteps := 1000000 }) only [go_sem, ↓ifP_true, ↓ifP_false, ↓ifP_not, Nat.reduceLT, Nat.reduceAdd, Nat.reduceBEq, Nat.reduceSub, Nat.reduceLeDiff, Nat.reduceEqDiff, Nat.reduceMul, Int.reduceToNat, Int.reduceEq, Int.reduceLT, Int.reduceLE, Int.reduceAdd, Int.reduceSub, Int.reduceMul, reduceCtorEq, cond_true, cond_false, forall_eq', forall_eq, forall_const, implies_true, if_true, if_false, exists_eq_left', exists_eq', exists_eq, ne_eq, Try.f69, tb69_57, tb69_73, tb69_59, spSFrm_q, spSFrm_A, spSFrm_pre, spSFrm_post, spPick_q, spPick_A, spPick_pre, spPick_post, spRCol_q, spRCol_A, spRCol_pre, spRCol_post, spACol_q, spACol_A, spACol_pre, spACol_post, Picks]
    repeat' (first | apply And.intro | (intro _) | omega | assumption | with_reducible rfl)
  
  all_goals (first | (omega; done) | (exact ex_frm (by omega); done) | (exact ex_frm2 (by omega); done) | (exact ex_frm3 (by omega); done))
theorem sat_spec_someFrame : Sat Try.prog rt0 69 (wkIn spSFrm) := sat_in (sat_out sat_spec_someFrame_0)
def spAFrm_A : Unit → List AV
  | () => [.c .rdr]
def spAFrm_pre : Unit → Prop
  | () => True
def spAFrm_post : Unit → AV → List Box → Prop
  | (), r, bs => ∃ f : Frm, r = .agg (frC f) ∧ bs = [] ∧ f.px.length ≤ 200
def spAFrm : VE.Spec := famSpec spAFrm_A d_r spAFrm_pre spAFrm_post 1310 false
theorem spAFrm_q : spAFrm.flat = false ∧ spAFrm.mt = [] ∧ spAFrm.shut = false ∧ spAFrm.cost = 1310 ∧ (∀ a i, spAFrm.pre a i = (i = [] ∧ famPre d_r spAFrm_A spAFrm_pre a)) ∧ ∀ a i r b, spAFrm.post a i r b = (famPost d_r spAFrm_post a r b) := ⟨rfl, rfl, rfl, rfl, fun _ _ => rfl, fun _ _ _ _ => rfl⟩
def tb49 : Nat → Option VE.Spec := tabOf [(57, wkIn spPick), (69, wkIn spSFrm)]
theorem tb49_57 : tb49 57 = some (wkIn spPick) := rfl
theorem tb49_69 : tb49 69 = some (wkIn spSFrm) := rfl
theorem tb49_ok : TabOK Try.prog rt0 tb49 := (tabOf_cons (by kernel_rfl) sat_spec_reader_pick (tabOf_cons (by kernel_rfl) sat_spec_someFrame tabOf_nil))
set_option maxHeartbeats 4000000 in
theorem sat_spec_anyFrame_0 : Sat Try.prog rt0 49 (wkOut spAFrm) := by
  refine fn_sat hm ttok (tab := tb49) tb49_ok Try.func49 (c := Try.f49.body.getD .skip) (by kernel_rfl) (ts := [.cell 2 27]) (by kernel_rfl) Try.ntmps49 (sq := fun _ => true) (by kernel_rfl) ?_
  intro args ins pk hpre0 hpk
  obtain ⟨rfl, hpre0⟩ := hpre0
  obtain ⟨⟨⟩, rfl, hpre, hdec⟩ := famPre_ex hpre0
  clear hpre0 hdec
  try simp only [spAFrm_pre] at hpre
  replace hpk : pk + 1310 ≤ pickLimit := hpk
  refine ⟨Nat.le_of_ble_eq_true rfl, ?_⟩
  simp (config := { maxSteps := 1000000 }) only [go_sem, ↓ifP_true, ↓ifP_false, ↓ifP_not, Nat.reduceLT, Nat.reduceAdd, Nat.reduceBEq, Nat.reduceSub, Nat.reduceLeDiff, Nat.reduceEqDiff, Nat.reduceMul, Int.reduceToNat, Int.reduceEq, Int.reduceLT, Int.reduceLE, Int.reduceAdd, Int.reduceSub, Int.reduceMul, reduceCtorEq, cond_true, cond_false, forall_eq', forall_eq, forall_const, implies_true, if_true, if_false, exists_eq_left', exists_eq', exists_eq, ne_eq, Try.f49, tb49_57, tb49_69, spAFrm_q, spAFrm_A, spAFrm_pre, spAFrm_post, spPick_q, spPick_A, spPick_pre, spPick_post, spSFrm_q, spSFrm_A, spSFrm_pre, spSFrm_post, Picks]
  repeat' (first | apply And.intro | (intro _) | omega | assumption | with_reducible rfl)
  all_goals (first | (exact ⟨_, rfl, by assumption⟩; done) | (exact trivial; done) | (rfl; done) | (omega; done))
theorem sat_spec_anyFrame : Sat Try.prog rt0 49 (wkIn spAFrm) := sat_in (sat_out sat_spec_anyFrame_0)
def spDFrm_A : (List UInt8) → List AV
  | code => [.c (.sl false (byC code))]
def spDFrm_pre : (List UInt8) → Prop
  | code => code.length ≤ 1048576
def spDFrm_post : (List UInt8) → AV → List Box → Prop
  | code, r, bs => ∃ f : Frm, r = .agg (frC f) ∧ bs = [] ∧ f.px.length ≤ 200
def spDFrm : VE.Spec := famSpecS spDFrm_A d_ly spDFrm_pre spDFrm_post 1320 false
theorem spDFrm_q : spDFrm.flat = false ∧ spDFrm.mt = [] ∧ spDFrm.shut = true ∧ spDFrm.cost = 1320 ∧ (∀ a i, spDFrm.pre a i = (i = [] ∧ famPre d_ly spDFrm_A spDFrm_pre a)) ∧ ∀ a i r b, spDFrm.post a i r b = (famPost d_ly spDFrm_post a r b) := ⟨rfl, rfl, rfl, rfl, fun _ _ => rfl, fun _ _ _ _ => rfl⟩
def tb22 : Nat → Option VE.Spec := tabOf [(37, wkIn spNew), (49, wkIn spAFrm)]
theorem tb22_37 : tb22 37 = some (wkIn spNew) := rfl
theorem tb22_49 : tb22 49 = some (wkIn spAFrm) := rfl
theorem tb22_ok : TabOK Try.prog rt0 tb22 := (tabOf_cons (by kernel_rfl) sat_spec_newReader (tabOf_cons (by kernel_rfl) sat_spec_anyFrame tabOf_nil))
set_option maxHeartbeats 4000000 in
theorem sat_spec_DrawRunsOf_0 : Sat Try.prog rt0 22 (wkOut spDFrm) := by
  refine fn_sat hm ttok (tab := tb22) tb22_ok Try.func22 (c := Try.f22.body.getD .skip) (by kernel_rfl) (ts := [.cell 2 27]) (by kernel_rfl) Try.ntmps22 (sq := fun _ => true) (by kernel_rfl) ?_
  intro args ins pk hpre0 hpk
  obtain ⟨rfl, hpre0⟩ := hpre0
  obtain ⟨code, rfl, hpre, hdec⟩ := famPre_ex hpre0
  clear hpre0 hdec
  try simp only [spDFrm_pre] at hpre
  replace hpk : pk + 1320 ≤ pickLimit := hpk
  refine ⟨Nat.le_of_ble_eq_true rfl, ?_⟩
  simp (config := { maxSteps := 1000000 }) only [go_sem, ↓ifP_true, ↓ifP_false, ↓ifP_not, Nat.reduceLT, Nat.reduceAdd, Nat.reduceBEq, Nat.reduceSub, Nat.reduceLeDiff, Nat.reduceEqDiff, Nat.reduceMul, Int.reduceToNat, Int.reduceEq, Int.reduceLT, Int.reduceLE, Int.reduceAdd, Int.reduceSub, Int.reduceMul, reduceCtorEq, cond_true, cond_false, forall_eq', forall_eq, forall_const, implies_true, if_true, if_false, exists_eq_left', exists_eq', exists_eq, ne_eq, Try.f22, tb22_37, tb22_49, spDFrm_q, spDFrm_A, spDFrm_pre, spDFrm_post, spNew_q, spAFrm_q, spAFrm_A, spAFrm_pre, spAFrm_post]
  repeat' (first | apply And.intro | (intro _) | omega | assumption | with_reducible rfl)
  all_goals (first | (exact ⟨_, _, rfl, rfl, hpre⟩; done) | (exact ⟨_, rfl, by assumption⟩; done) | (assumption; done) | (trivial; done))
theorem sat_spec_DrawRunsOf : Sat Try.prog rt0 22 (wkIn spDFrm) := sat_in (sat_out sat_spec_DrawRunsOf_0)
def tb26 : Nat → Option VE.Spec := tabOf [(37, wkIn spNew), (49, wkIn spAFrm)]
theorem tb26_37 : tb26 37 = some (wkIn spNew) := rfl
theorem tb26_49 : tb26 49 = some (wkIn spAFrm) := rfl
theorem tb26_ok : TabOK Try.prog rt0 tb26 := (tabOf_cons (by kernel_rfl) sat_spec_newReader (tabOf_cons (by kernel_rfl) sat_spec_anyFrame tabOf_nil))
set_option maxHeartbeats 4000000 in
theorem sat_spec_DrawColorCount_0 : Sat Try.prog rt0 26 (wkOut spDFrm) := by
  refine fn_sat hm ttok (tab := tb26) tb26_ok Try.func26 (c := Try.f26.body.getD .skip) (by kernel_rfl) (ts := [.cell 2 27]) (by kernel_rfl) Try.ntmps26 (sq := fun _ => true) (by kernel_rfl) ?_
  intro args ins pk hpre0 hpk
  obtain ⟨rfl, hpre0⟩ := hpre0
  obtain ⟨code, rfl, hpre, hdec⟩ := famPre_ex hpre0
  clear hpre0 hdec
  try simp only [spDFrm_pre] at hpre
  replace hpk : pk + 1320 ≤ pickLimit := hpk
  refine ⟨Nat.le_of_ble_eq_true rfl, ?_⟩
  simp (config := { maxSteps := 1000000 }) only [go_sem, ↓ifP_true, ↓ifP_false, ↓ifP_not, Nat.reduceLT, Nat.reduceAdd, Nat.reduceBEq, Nat.reduceSub, Nat.reduceLeDiff, Nat.reduceEqDiff, Nat.reduceMul, Int.reduceToNat, Int.reduceEq, Int.reduceLT, Int.reduceLE, Int.reduceAdd, Int.reduceSub, Int.reduceMul, reduceCtorEq, cond_true, cond_false, forall_eq', forall_eq, forall_const, implies_true, if_true, if_false, exists_eq_left', exists_eq', exists_eq, ne_eq, Try.f26, tb26_37, tb26_49, spDFrm_q, spDFrm_A, spDFrm_pre, spDFrm_post, spNew_q, spAFrm_q, spAFrm_A, spAFrm_pre, spAFrm_post]
  repeat' (first | apply And.intro | (intro _) | omega | assumption | with_reducible rfl)
  all_goals (first | (exact ⟨_, _, rfl, rfl, hpre⟩; done) | (exact ⟨_, rfl, by assumption⟩; done) | (assumption; done) | (trivial; done))
theorem sat_spec_DrawColorCount : Sat Try.prog rt0 26 (wkIn spDFrm) := sat_in (sat_out sat_spec_DrawColorCount_0)
end Go.Proofs.Ytofelomoieamoaa
end
section
set_option maxRecDepth 100000
set_option linter.unusedSimpArgs false
set_option linter.unusedVariables false
namespace Go.Proofs.Ytofelomoieamoaa
open Go Go.VE
/-- The runs of a row: the last one grows, or a new one stands behind it. -/
def rStep (o : List Rn) (c : Colr) : List Rn :=
  match o.getLast? with
  | some r => if r.c = c then o.dropLast ++ [⟨r.c, r.m + 1⟩] else o ++ [⟨c, 1⟩]
  | none => o ++ [⟨c, 1⟩]
def rF (l : List Colr) : List Rn := l.foldl rStep []
def rX (o : List Rn) : List Colr := o.flatMap fun r => List.replicate r.m.toNat r.c
/-- Runs are positive, and neighbours differ; the last one's color differs from 'c' if one is given. -/
def isR : List Rn → Bool
  | [] => true
  | [r] => decide (1 ≤ r.m)
  | r :: q :: t => decide (1 ≤ r.m) && decide (r.c ≠ q.c) && isR (q :: t)
theorem rStep_nil (c : Colr) : rStep [] c = [⟨c, 1⟩] := rfl
theorem rStep_snoc (o : List Rn) (r : Rn) (c : Colr) : rStep (o ++ [r]) c = if r.c = c then o ++ [⟨r.c, r.m + 1⟩] else o ++ [r] ++ [⟨c, 1⟩] := by
  simp only [rStep, List.getLast?_append, List.getLast?_singleton, Option.some_or, List.dropLast_concat]
theorem rF_snoc (l : List Colr) (c : Colr) : rF (l ++ [c]) = rStep (rF l) c := by
  simp only [rF, List.foldl_append, List.foldl_cons, List.foldl_nil]
theorem rX_app (o p : List Rn) : rX (o ++ p) = rX o ++ rX p := by simp [rX]
theorem rX_one (r : Rn) : rX [r] = List.replicate r.m.toNat r.c := by simp [rX]
theorem isR_snoc : ∀ (o : List Rn) (r : Rn), isR (o ++ [r]) = (isR o && decide (1 ≤ r.m) && (match o.getLast? with | some q => decide (q.c ≠ r.c) | none => true))
  | [], r => by simp [isR]
  | [q], r => by
    simp only [List.cons_append, List.nil_append, isR, List.getLast?_singleton]
    cases decide (1 ≤ q.m) <;> cases decide (q.c ≠ r.c) <;> cases decide (1 ≤ r.m) <;> rfl
  | q :: p :: t, r => by
    have h := isR_snoc (p :: t) r
    simp only [List.cons_append, isR] at h ⊢
    rw [h]
    have e : (q :: p :: t).getLast? = (p :: t).getLast? := by simp [List.getLast?_cons_cons]
    rw [e]
    cases decide (1 ≤ q.m) <;> cases decide (q.c ≠ p.c) <;> simp
theorem snoc_cases {α : Type} (l : List α) : l = [] ∨ ∃ o r, l = o ++ [r] := by
  cases h : l.reverse with
  | nil => exact .inl (by simpa using h)
  | cons a t => exact .inr ⟨t.reverse, a, by rw [← List.reverse_reverse l, h, List.reverse_cons]⟩
theorem isR_step {o : List Rn} (h : isR o = true) (c : Colr) : isR (rStep o c) = true ∧ rX (rStep o c) = rX o ++ [c] := by
  rcases snoc_cases o with rfl | ⟨p, r, rfl⟩
  · exact ⟨by simp [rStep, isR], by simp [rStep, rX]⟩
  · rw [isR_snoc, Bool.and_eq_true, Bool.and_eq_true, decide_eq_true_eq] at h
    obtain ⟨⟨h1, h2⟩, h3⟩ := h
    rw [rStep_snoc]
    split
    · rename_i hc
      refine ⟨?_, ?_⟩
      · rw [isR_snoc, h1, decide_eq_true (show (1 : Int) ≤ r.m + 1 by omega)]
        simpa using h3
      · rw [rX_app, rX_app, rX_one, rX_one, List.append_assoc]
        congr 1
        have e : (r.m + 1).toNat = r.m.toNat + 1 := by omega
        dsimp only
        rw [e, List.replicate_succ', hc]
    · rename_i hc
      refine ⟨?_, ?_⟩
      · rw [isR_snoc, isR_snoc, h1, decide_eq_true h2, h3, List.getLast?_append]
        simp [hc]
      · rw [rX_app (p ++ [r]), rX_one]; rfl
theorem rF_ok : ∀ (n : Nat) (l : List Colr), l.length = n → isR (rF l) = true ∧ rX (rF l) = l
  | 0, l, h => by
    have : l = [] := List.length_eq_zero_iff.1 h
    subst this; exact ⟨rfl, rfl⟩
  | n + 1, l, h => by
    rcases snoc_cases l with rfl | ⟨o, c, rfl⟩
    · simp at h
    · obtain ⟨h1, h2⟩ := rF_ok n o (by simpa using h)
      rw [rF_snoc]
      have := isR_step h1 c
      exact ⟨this.1, by rw [this.2, h2]⟩
theorem rF_is (l : List Colr) : isR (rF l) = true := (rF_ok _ l rfl).1
theorem rF_x (l : List Colr) : rX (rF l) = l := (rF_ok _ l rfl).2
/-- A whole run at once. -/
theorem rF_rep {l : List Colr} {c : Colr} (h : ∀ q, (rF l).getLast? = some q → q.c ≠ c) : ∀ n : Nat, rF (l ++ List.replicate (n + 1) c) = rF l ++ [⟨c, (n : Int) + 1⟩]
  | 0 => by
    rw [List.replicate_one, rF_snoc]
    unfold rStep
    split
    · rename_i r hr; rw [if_neg (h r hr)]; rfl
    · rfl
  | n + 1 => by
    rw [List.replicate_succ', ← List.append_assoc, rF_snoc, rF_rep h n, rStep_snoc, if_pos rfl]
    simp
theorem rF_rX : ∀ (n : Nat) (o : List Rn), o.length = n → isR o = true → rF (rX o) = o
  | 0, o, h, _ => by
    have : o = [] := List.length_eq_zero_iff.1 h
    subst this; rfl
  | n + 1, o, h, hr => by
    rcases snoc_cases o with rfl | ⟨p, r, rfl⟩
    · simp at h
    · rw [isR_snoc, Bool.and_eq_true, Bool.and_eq_true, decide_eq_true_eq] at hr
      obtain ⟨⟨h1, h2⟩, h3⟩ := hr
      have ih := rF_rX n p (by simpa using h) h1
      have e : r.m.toNat = (r.m - 1).toNat + 1 := by omega
      rw [rX_app, rX_one, e, rF_rep (fun q hq => by rw [ih] at hq; rw [hq] at h3; simpa using h3), ih]
      have e2 : (((r.m - 1).toNat : Int) + 1) = r.m := by omega
      rw [e2]
theorem rF_of {o : List Rn} (h : isR o = true) : rF (rX o) = o := rF_rX _ o rfl h
theorem isR_iff {o : List Rn} : rF (rX o) = o ↔ isR o = true := ⟨fun h => h ▸ rF_is _, rF_of⟩
theorem isR_at : ∀ {o : List Rn} {i : Nat} {r : Rn}, isR o = true → o[i]? = some r → 1 ≤ r.m
  | [q], 0, r, h, hi => by
    simp only [List.getElem?_cons_zero, Option.some.injEq] at hi; subst hi
    simpa [isR] using h
  | [q], i + 1, r, h, hi => by simp at hi
  | q :: p :: t, 0, r, h, hi => by
    simp only [List.getElem?_cons_zero, Option.some.injEq] at hi; subst hi
    simp only [isR, Bool.and_eq_true, decide_eq_true_eq] at h; exact h.1.1
  | q :: p :: t, i + 1, r, h, hi => by
    simp only [isR, Bool.and_eq_true] at h
    exact isR_at (o := p :: t) (i := i) h.2 (by simpa using hi)
theorem isR_ne : ∀ {o : List Rn} {i : Nat} {r q : Rn}, isR o = true → o[i]? = some r → o[i + 1]? = some q → r.c ≠ q.c
  | [_], i, r, q, h, hi, hq => by simp at hq
  | a :: p :: t, 0, r, q, h, hi, hq => by
    simp only [List.getElem?_cons_zero, List.getElem?_cons_succ, Option.some.injEq] at hi hq; subst hi; subst hq
    simp only [isR, Bool.and_eq_true, decide_eq_true_eq] at h; exact h.1.2
  | a :: p :: t, i + 1, r, q, h, hi, hq => by
    simp only [isR, Bool.and_eq_true] at h
    exact isR_ne (o := p :: t) (i := i) h.2 (by simpa using hi) (by simpa using hq)
theorem rX_take {o : List Rn} {i : Nat} {r : Rn} (h : o[i]? = some r) : rX (o.take (i + 1)) = rX (o.take i) ++ List.replicate r.m.toNat r.c := by
  rw [List.take_add_one, h, Option.toList_some, rX_app, rX_one]
theorem rX_le (o : List Rn) (i : Nat) : (rX (o.take i)).length ≤ (rX o).length := by
  have h : o = o.take i ++ o.drop i := (List.take_append_drop i o).symm
  have : (rX o).length = (rX (o.take i)).length + (rX (o.drop i)).length := by
    conv => lhs; rw [h, rX_app, List.length_append]
  omega
theorem rX_lenR : ∀ {o : List Rn}, isR o = true → o.length ≤ (rX o).length
  | [], _ => by simp
  | [r], h => by
    have : 1 ≤ r.m := by simpa [isR] using h
    rw [rX_one]; simp; omega
  | r :: q :: t, h => by
    simp only [isR, Bool.and_eq_true, decide_eq_true_eq] at h
    have ih := rX_lenR h.2
    have e : rX (r :: q :: t) = rX [r] ++ rX (q :: t) := rX_app [r] (q :: t)
    rw [e, List.length_append, rX_one, List.length_replicate]
    simp only [List.length_cons] at ih ⊢
    omega
theorem isR_take : ∀ {o : List Rn} {i : Nat} {r : Rn}, isR (o.take i) = true → o[i]? = some r → 1 ≤ r.m → (∀ q, 0 < i → o[i - 1]? = some q → q.c ≠ r.c) → isR (o.take (i + 1)) = true := by
  intro o i r h hi h1 h2
  rw [List.take_add_one, hi, Option.toList_some, isR_snoc, h, decide_eq_true h1]
  cases hl : (o.take i).getLast? with
  | none => rfl
  | some q =>
    have hk : i ≤ o.length := by have := (List.getElem?_eq_some_iff.1 hi).1; omega
    have h0 : 0 < i := by
      cases i with
      | zero => simp at hl
      | succ => omega
    have hq : o[i - 1]? = some q := by
      rw [List.getLast?_eq_getElem?, List.length_take, Nat.min_eq_left hk, List.getElem?_take] at hl
      rw [if_pos (by omega)] at hl; exact hl
    simpa using h2 q h0 hq
theorem isR_takeN {o : List Rn} (h : isR o = true) (i : Nat) : isR (o.take i) = true := by
  have key : ∀ (n : Nat) (p q : List Rn), q.length = n → isR (p ++ q) = true → isR p = true := by
    intro n
    induction n with
    | zero => intro p q hq hp; rw [List.length_eq_zero_iff.1 hq, List.append_nil] at hp; exact hp
    | succ n ih =>
      intro p q hq hp
      rcases snoc_cases q with rfl | ⟨t, r, rfl⟩
      · simp at hq
      · rw [← List.append_assoc, isR_snoc, Bool.and_eq_true, Bool.and_eq_true] at hp
        exact ih p t (by simpa using hq) hp.1.1
  exact key _ (o.take i) (o.drop i) rfl (by rw [List.take_append_drop]; exact h)
def bdR (px : List Colr) (i : Nat) : Prop := ∀ c q, px[i]? = some c → (rF (px.take i)).getLast? = some q → q.c ≠ c
theorem bdR_0 (px : List Colr) : bdR px 0 := fun c q _ h => by simp [rF] at h
theorem sp_1 {px : List Colr} {i : Nat} {c : Colr} (h : px[i]? = some c) : px.take (i + 1) = px.take i ++ List.replicate 1 c := by
  rw [List.take_add_one, h]; rfl
theorem sp_in {px : List Colr} {i n : Nat} {c : Colr} (h : px.take (i + n) = px.take i ++ List.replicate n c) (hk : px[i + n]? = some c) : px.take (i + (n + 1)) = px.take i ++ List.replicate (n + 1) c := by
  rw [← Nat.add_assoc, List.take_add_one, h, hk, List.replicate_succ', List.append_assoc]; rfl
theorem sp_out {px : List Colr} {i n : Nat} {c : Colr} (hb : bdR px i) (hi : px[i]? = some c) (hn : 1 ≤ n) (h : px.take (i + n) = px.take i ++ List.replicate n c) : rF (px.take (i + n)) = rF (px.take i) ++ [⟨c, n⟩] := by
  have e : n = (n - 1) + 1 := by omega
  rw [h]
  conv => lhs; rw [e]
  rw [rF_rep (fun q hq => hb c q hi hq), show (((n - 1 : Nat) : Int) + 1) = n by omega]
theorem sp_bd {px : List Colr} {i n : Nat} {c : Colr} (hb : bdR px i) (hi : px[i]? = some c) (hn : 1 ≤ n) (h : px.take (i + n) = px.take i ++ List.replicate n c) (hd : ∀ d, px[i + n]? = some d → d ≠ c) : bdR px (i + n) := by
  intro d q h1 h2
  rw [sp_out hb hi hn h, List.getLast?_append] at h2
  simp only [List.getLast?_singleton, Option.some_or, Option.some.injEq] at h2
  subst h2
  exact fun h3 => hd d h1 h3.symm
def rnF (f : Frm) : List Rn := if vFrm f = true then rF f.px else []
def okFF (w h : Int) (o : List Rn) : Bool := isR o && vFrm ⟨w, h, rX o⟩
def ffF (w h : Int) (o : List Rn) : Frm := if okFF w h o = true then ⟨w, h, rX o⟩ else ⟨0, 0, []⟩
theorem rn_yes {f : Frm} (h : vFrm f = true) : rnF f = rF f.px := if_pos h
theorem rn_no {f : Frm} (h : vFrm f = false) : rnF f = [] := if_neg (by rw [h]; decide)
theorem ff_yes {w h : Int} {o : List Rn} (x : okFF w h o = true) : ffF w h o = ⟨w, h, rX o⟩ := if_pos x
theorem ff_no {w h : Int} {o : List Rn} (x : okFF w h o = false) : ffF w h o = ⟨0, 0, []⟩ := if_neg (by rw [x]; decide)
theorem ff_parts {w h : Int} {o : List Rn} (x : okFF w h o = true) : isR o = true ∧ vFrm ⟨w, h, rX o⟩ = true ∧ szd w h = true ∧ ((rX o).length : Int) = w * h := by
  simp only [okFF, Bool.and_eq_true] at x
  have x2 := x.2
  simp only [vFrm, Bool.and_eq_true, decide_eq_true_eq] at x2
  exact ⟨x.1, x.2, x2.1.1, x2.1.2⟩
theorem ff_many {w h : Int} {o : List Rn} {i : Nat} {r : Rn} (x : okFF w h o = true) (hi : o[i]? = some r) : 1 ≤ r.m ∧ r.m ≤ w * h - (rX (o.take i)).length ∧ r.m ≤ 144 - (rX (o.take i)).length := by
  obtain ⟨h1, h2, h3, h4⟩ := ff_parts x
  have hm := isR_at h1 hi
  have hl := rX_le o (i + 1)
  rw [rX_take hi, List.length_append, List.length_replicate] at hl
  have := wh_bd h3
  omega
theorem bool_no {b : Bool} (h : b = true → False) : b = false := by cases b with
  | true => exact (h rfl).elim
  | false => rfl
theorem ff_n1 {w h : Int} {o : List Rn} {i : Nat} {r : Rn} (hi : o[i]? = some r) (hb : ¬ (1 ≤ r.m ∧ r.m ≤ 144 - (rX (o.take i)).length)) : okFF w h o = false := bool_no fun x => hb ⟨(ff_many x hi).1, (ff_many x hi).2.2⟩
theorem ff_n2 {w h : Int} {o : List Rn} {i : Nat} {r : Rn} (hi : o[i]? = some r) (hb : ¬ (1 ≤ r.m ∧ r.m ≤ w * h - (rX (o.take i)).length)) : okFF w h o = false := bool_no fun x => hb ⟨(ff_many x hi).1, (ff_many x hi).2.1⟩
theorem ff_n3 {w h : Int} {o : List Rn} {i : Nat} {r q : Rn} (hi : o[i]? = some r) (hq : o[i + 1]? = some q) (hb : r.c = q.c) : okFF w h o = false := bool_no fun x => isR_ne (ff_parts x).1 hi hq hb
theorem ff_n4 {w h : Int} {o : List Rn} (hb : w * h < (o.length : Int)) : okFF w h o = false := bool_no fun x => by
  have h1 := rX_lenR (ff_parts x).1
  have h2 := (ff_parts x).2.2.2
  omega
theorem ff_n5 {w h : Int} {o : List Rn} (hb : vFrm ⟨w, h, rX o⟩ = false) : okFF w h o = false := bool_no fun x => by rw [(ff_parts x).2.1] at hb; cases hb
theorem ff_n6 {w h : Int} {o : List Rn} (hb : szd w h = false) : okFF w h o = false := bool_no fun x => by rw [(ff_parts x).2.2.1] at hb; cases hb
theorem ff_n7 {w h : Int} {o : List Rn} (hv : vFrm ⟨w, h, rX o⟩ = true) (hb : ¬ rnF ⟨w, h, rX o⟩ = o) : okFF w h o = false := bool_no fun x => hb (by rw [rn_yes hv]; exact rF_of (ff_parts x).1)
theorem ff_y1 {w h : Int} {o : List Rn} (hv : vFrm ⟨w, h, rX o⟩ = true) (hb : rnF ⟨w, h, rX o⟩ = o) : okFF w h o = true := by
  rw [rn_yes hv] at hb
  rw [okFF, isR_iff.1 hb, hv]; rfl
theorem ff_y2 {w h : Int} {o : List Rn} (hv : vFrm ⟨w, h, rX o⟩ = true) (hb : isR o = true) : okFF w h o = true := by
  rw [okFF, hb, hv]; rfl
/-- Runs lose nothing. -/
theorem ff_rn {f : Frm} (h : vFrm f = true) : okFF f.w f.h (rF f.px) = true ∧ ffF f.w f.h (rF f.px) = f := by
  have e : okFF f.w f.h (rF f.px) = true := by
    rw [okFF, rF_is, rF_x]; exact h
  exact ⟨e, by rw [ff_yes e, rF_x]⟩
theorem rn_ff {w h : Int} {o : List Rn} (x : okFF w h o = true) : rnF (ffF w h o) = o := by
  rw [ff_yes x, rn_yes (ff_parts x).2.1]; exact rF_of (ff_parts x).1
theorem rF_len (l : List Colr) : (rF l).length ≤ l.length := by
  have := rX_lenR (rF_is l); rwa [rF_x] at this
theorem rF_snoc_take {l : List Colr} {i : Nat} {c : Colr} (h : l[i]? = some c) : rF (l.take (i + 1)) = rStep (rF (l.take i)) c := by
  rw [List.take_add_one, h, Option.toList_some, rF_snoc]
theorem rStep_same {o : List Rn} {r : Rn} {c : Colr} {k : Nat} (h : o[k]? = some r) (hl : k + 1 = o.length) (hc : r.c = c) : rStep o c = o.set k ⟨r.c, r.m + 1⟩ := by
  rcases snoc_cases o with rfl | ⟨p, q, rfl⟩
  · simp at h
  · have hk : k = p.length := by simp at hl; omega
    subst hk
    simp only [List.length_append, List.getElem?_append_right (Nat.le_refl _), Nat.sub_self, List.getElem?_cons_zero, Option.some.injEq] at h
    subst h
    rw [rStep_snoc, if_pos hc, List.set_append_right _ _ (Nat.le_refl _), Nat.sub_self, List.set_cons_zero]
theorem rStep_new {o : List Rn} {r : Rn} {c : Colr} {k : Nat} (h : o[k]? = some r) (hl : k + 1 = o.length) (hc : ¬ r.c = c) : rStep o c = o ++ [⟨c, 1⟩] := by
  have : o.getLast? = some r := by rw [List.getLast?_eq_getElem?, show o.length - 1 = k by omega]; exact h
  simp only [rStep, this, if_neg hc]
theorem rStep_first {o : List Rn} {c : Colr} (h : o.length = 0) : rStep o c = o ++ [⟨c, 1⟩] := by
  have : o = [] := List.length_eq_zero_iff.1 h
  subst this; rfl
attribute [irreducible] bdR
def spClipR_A : List Rn → List AV := fun l => [.c (.own 0 l.length false)]
def spClipR_B : List Rn → List Box := fun l => [⟨l.map rnC, 5, 46, true, false⟩]
def spClipR_d : List AV → List Box → Option (List Rn)
  | [.c (.own 0 _ false)], [⟨es, _, _, _, _⟩] => decAll rnCd es
  | _, _ => none
def spClipR_pre : List Rn → Prop := fun l => l.length ≤ 1000000000
def spClipR_post : List Rn → AV → List Box → Prop := fun l r bs => r = .c (.own 0 (l).length false) ∧ bs = [⟨(l).map rnC, 5, 46, true, false⟩]
def spClipR : VE.Spec := famSpecM spClipR_A spClipR_B spClipR_d spClipR_pre spClipR_post 0 false [true] false
theorem spClipR_q : spClipR.flat = false ∧ spClipR.mt = [true] ∧ spClipR.shut = false ∧ spClipR.cost = 0 ∧ (∀ a i, spClipR.pre a i = (famPreM spClipR_d spClipR_A spClipR_B spClipR_pre a i)) ∧ ∀ a i r b, spClipR.post a i r b = (famPostM spClipR_d spClipR_post a i r b) := ⟨rfl, rfl, rfl, rfl, fun _ _ => rfl, fun _ _ _ _ => rfl⟩
def tb50 : Nat → Option VE.Spec := tabOf []
theorem tb50_ok : TabOK Try.prog rt0 tb50 := tabOf_nil
set_option maxHeartbeats 4000000 in
theorem sat_slices_Clip_impl_Run_impl_Run_0 : Sat Try.prog rt0 50 (wkOut spClipR) := by
  refine fn_sat hm ttok (tab := tb50) tb50_ok Try.func50 (c := Try.f50.body.getD .skip) (by kernel_rfl) (ts := [.tmp 2]) (by kernel_rfl) Try.ntmps50 (sq := fun _ => true) (by kernel_rfl) ?_
  intro args ins pk hpre0 hpk
  obtain ⟨l, rfl, rfl, hpre, hdec⟩ := famPreM_ex hpre0
  clear hpre0 hdec
  try simp only [spClipR_pre] at hpre
  replace hpk : pk + 0 ≤ pickLimit := hpk
  refine ⟨Nat.le_of_ble_eq_true rfl, ?_⟩
  simp (config := { maxSteps := 1000000 }) only [go_sem, ↓ifP_true, ↓ifP_false, ↓ifP_not, Nat.reduceLT, Nat.reduceAdd, Nat.reduceBEq, Nat.reduceSub, Nat.reduceLeDiff, Nat.reduceEqDiff, Nat.reduceMul, Int.reduceToNat, Int.reduceEq, Int.reduceLT, Int.reduceLE, Int.reduceAdd, Int.reduceSub, Int.reduceMul, reduceCtorEq, cond_true, cond_false, forall_eq', forall_eq, forall_const, implies_true, if_true, if_false, exists_eq_left', exists_eq', exists_eq, ne_eq, Try.f50, spClipR_q, spClipR_A, spClipR_B, spClipR_d, spClipR_pre, spClipR_post]
  repeat' (first | apply And.intro | (intro _) | omega | assumption | with_reducible rfl)
  all_goals (first | (omega; done))
theorem sat_slices_Clip_impl_Run_impl_Run : Sat Try.prog rt0 50 (wkIn spClipR) := sat_in (sat_out sat_slices_Clip_impl_Run_impl_Run_0)
end Go.Proofs.Ytofelomoieamoaa
end
