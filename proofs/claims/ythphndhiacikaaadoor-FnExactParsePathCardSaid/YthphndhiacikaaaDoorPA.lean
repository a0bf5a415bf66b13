/- Contracts of functions of the program vectorraster, each proved for all states that fit its description. No conditions. -/
import Derived.Test.YthphndhiacikaaaDoorKK
set_option linter.unusedSimpArgs false
set_option linter.unusedVariables false
section
set_option maxRecDepth 100000
set_option linter.unusedSimpArgs false
set_option linter.unusedVariables false
namespace Go.Proofs.YthphndhiacikaaaDoor
open Go Go.VE
def spIn_A : Int × Int × Int → List AV
  | (n, lo, hi) => [I n, I lo, I hi]
def spIn_pre : Int × Int × Int → Prop
  | (n, lo, hi) => True
def spIn_post : Int × Int × Int → AV → List Box → Prop
  | (n, lo, hi), r, bs => r = B (decide (lo ≤ n ∧ n ≤ hi)) ∧ bs = []
def spIn : VE.Spec := famSpec spIn_A d_i_i_i spIn_pre spIn_post 0 true
theorem spIn_q : spIn.flat = true ∧ spIn.mt = [] ∧ spIn.shut = false ∧ spIn.cost = 0 ∧ (∀ a i, spIn.pre a i = (i = [] ∧ famPre d_i_i_i spIn_A spIn_pre a)) ∧ ∀ a i r b, spIn.post a i r b = (famPost d_i_i_i spIn_post a r b) := ⟨rfl, rfl, rfl, rfl, fun _ _ => rfl, fun _ _ _ _ => rfl⟩
def tb27 : Nat → Option VE.Spec := tabOf []
theorem tb27_ok : TabOK Tryd.prog rt0 tb27 := tabOf_nil
set_option maxHeartbeats 4000000 in
theorem sat_impl_in_0 : Sat Tryd.prog rt0 27 (wkOut spIn) := by
  refine fn_sat hm ttok (tab := tb27) tb27_ok Tryd.func27 (c := Tryd.f27.body.getD .skip) (by kernel_rfl) (ts := [.tmp 6]) (by kernel_rfl) Tryd.ntmps27 (sq := fun _ => true) (by kernel_rfl) ?_
  intro args ins pk hpre0 hpk
  obtain ⟨rfl, hpre0⟩ := hpre0
  obtain ⟨⟨n, lo, hi⟩, rfl, hpre, hdec⟩ := famPre_ex hpre0
  clear hpre0 hdec
  try simp only [spIn_pre] at hpre
  replace hpk : pk + 0 ≤ pickLimit := hpk
  refine ⟨Nat.le_of_ble_eq_true rfl, ?_⟩
  simp (config := { maxSteps := 1000000 }) only [go_sem, ↓ifP_true, ↓ifP_false, ↓ifP_not, Nat.reduceLT, Nat.reduceAdd, Nat.reduceBEq, Nat.reduceSub, Nat.reduceLeDiff, Nat.reduceEqDiff, Nat.reduceMul, Int.reduceToNat, Int.reduceEq, Int.reduceLT, Int.reduceLE, Int.reduceAdd, Int.reduceSub, Int.reduceMul, reduceCtorEq, cond_true, cond_false, forall_eq', forall_eq, forall_const, implies_true, if_true, if_false, exists_eq_left', exists_eq', exists_eq, ne_eq, Tryd.f27, spIn_q, spIn_A, spIn_pre, spIn_post]
  repeat' (first | apply And.intro | (intro _) | omega | assumption | with_reducible rfl)
  all_goals (first | ((simp only [decide_eq_decide, true_eq_decide_iff, false_eq_decide_iff, Bool.not_eq_eq_eq_not, Bool.not_true, Bool.not_false]; omega); done))
theorem sat_impl_in : Sat Tryd.prog rt0 27 (wkIn spIn) := sat_in (sat_out sat_impl_in_0)
def tb88 : Nat → Option VE.Spec := tabOf []
theorem tb88_ok : TabOK Tryd.prog rt0 tb88 := tabOf_nil
set_option maxHeartbeats 4000000 in
theorem sat_spec_inRange_0 : Sat Tryd.prog rt0 88 (wkOut spIn) := by
  refine fn_sat hm ttok (tab := tb88) tb88_ok Tryd.func88 (c := Tryd.f88.body.getD .skip) (by kernel_rfl) (ts := [.tmp 6]) (by kernel_rfl) Tryd.ntmps88 (sq := fun _ => true) (by kernel_rfl) ?_
  intro args ins pk hpre0 hpk
  obtain ⟨rfl, hpre0⟩ := hpre0
  obtain ⟨⟨n, lo, hi⟩, rfl, hpre, hdec⟩ := famPre_ex hpre0
  clear hpre0 hdec
  try simp only [spIn_pre] at hpre
  replace hpk : pk + 0 ≤ pickLimit := hpk
  refine ⟨Nat.le_of_ble_eq_true rfl, ?_⟩
  simp (config := { maxSteps := 1000000 }) only [go_sem, ↓ifP_true, ↓ifP_false, ↓ifP_not, Nat.reduceLT, Nat.reduceAdd, Nat.reduceBEq, Nat.reduceSub, Nat.reduceLeDiff, Nat.reduceEqDiff, Nat.reduceMul, Int.reduceToNat, Int.reduceEq, Int.reduceLT, Int.reduceLE, Int.reduceAdd, Int.reduceSub, Int.reduceMul, reduceCtorEq, cond_true, cond_false, forall_eq', forall_eq, forall_const, implies_true, if_true, if_false, exists_eq_left', exists_eq', exists_eq, ne_eq, Tryd.f88, spIn_q, spIn_A, spIn_pre, spIn_post]
  repeat' (first | apply And.intro | (intro _) | omega | assumption | with_reducible rfl)
  all_goals (first | ((simp only [decide_eq_decide, true_eq_decide_iff, false_eq_decide_iff, Bool.not_eq_eq_eq_not, Bool.not_true, Bool.not_false]; omega); done))
theorem sat_spec_inRange : Sat Tryd.prog rt0 88 (wkIn spIn) := sat_in (sat_out sat_spec_inRange_0)
def isU (n : Int) : Bool := decide (-1000 ≤ n ∧ n ≤ 1000)
theorem isU_iff {n : Int} : isU n = true ↔ -1000 ≤ n ∧ n ≤ 1000 := by simp [isU]
def vPt (p : Pt) : Bool := isU p.x && isU p.y
def vPts (l : List Pt) : Bool := decide (l.length ≤ 40) && l.all vPt
def spIsU_A : Int → List AV
  | n => [I n]
def spIsU_pre : Int → Prop
  | n => True
def spIsU_post : Int → AV → List Box → Prop
  | n, r, bs => r = B (isU n) ∧ bs = []
def spIsU : VE.Spec := famSpec spIsU_A d_i spIsU_pre spIsU_post 0 true
theorem spIsU_q : spIsU.flat = true ∧ spIsU.mt = [] ∧ spIsU.shut = false ∧ spIsU.cost = 0 ∧ (∀ a i, spIsU.pre a i = (i = [] ∧ famPre d_i spIsU_A spIsU_pre a)) ∧ ∀ a i r b, spIsU.post a i r b = (famPost d_i spIsU_post a r b) := ⟨rfl, rfl, rfl, rfl, fun _ _ => rfl, fun _ _ _ _ => rfl⟩
def tb76 : Nat → Option VE.Spec := tabOf [(27, wkIn spIn)]
theorem tb76_27 : tb76 27 = some (wkIn spIn) := rfl
theorem tb76_ok : TabOK Tryd.prog rt0 tb76 := (tabOf_cons (by kernel_rfl) sat_impl_in tabOf_nil)
set_option maxHeartbeats 4000000 in
theorem sat_impl_isUnit_0 : Sat Tryd.prog rt0 76 (wkOut spIsU) := by
  refine fn_sat hm ttok (tab := tb76) tb76_ok Tryd.func76 (c := Tryd.f76.body.getD .skip) (by kernel_rfl) (ts := [.tmp 2]) (by kernel_rfl) Tryd.ntmps76 (sq := fun _ => true) (by kernel_rfl) ?_
  intro args ins pk hpre0 hpk
  obtain ⟨rfl, hpre0⟩ := hpre0
  obtain ⟨n, rfl, hpre, hdec⟩ := famPre_ex hpre0
  clear hpre0 hdec
  try simp only [spIsU_pre] at hpre
  replace hpk : pk + 0 ≤ pickLimit := hpk
  refine ⟨Nat.le_of_ble_eq_true rfl, ?_⟩
  simp (config := { maxSteps := 1000000 }) only [go_sem, ↓ifP_true, ↓ifP_false, ↓ifP_not, Nat.reduceLT, Nat.reduceAdd, Nat.reduceBEq, Nat.reduceSub, Nat.reduceLeDiff, Nat.reduceEqDiff, Nat.reduceMul, Int.reduceToNat, Int.reduceEq, Int.reduceLT, Int.reduceLE, Int.reduceAdd, Int.reduceSub, Int.reduceMul, reduceCtorEq, cond_true, cond_false, forall_eq', forall_eq, forall_const, implies_true, if_true, if_false, exists_eq_left', exists_eq', exists_eq, ne_eq, Tryd.f76, tb76_27, spIsU_q, spIsU_A, spIsU_pre, spIsU_post, spIn_q, spIn_A, spIn_pre, spIn_post, isU]
  repeat' (first | apply And.intro | (intro _) | omega | assumption | with_reducible rfl)
theorem sat_impl_isUnit : Sat Tryd.prog rt0 76 (wkIn spIsU) := sat_in (sat_out sat_impl_isUnit_0)
def spVPt_A : Pt → List AV
  | p => [.agg (ptC p)]
def spVPt_pre : Pt → Prop
  | p => True
def spVPt_post : Pt → AV → List Box → Prop
  | p, r, bs => r = B (vPt p) ∧ bs = []
def spVPt : VE.Spec := famSpec spVPt_A d_pt spVPt_pre spVPt_post 0 true
theorem spVPt_q : spVPt.flat = true ∧ spVPt.mt = [] ∧ spVPt.shut = false ∧ spVPt.cost = 0 ∧ (∀ a i, spVPt.pre a i = (i = [] ∧ famPre d_pt spVPt_A spVPt_pre a)) ∧ ∀ a i r b, spVPt.post a i r b = (famPost d_pt spVPt_post a r b) := ⟨rfl, rfl, rfl, rfl, fun _ _ => rfl, fun _ _ _ _ => rfl⟩
def tb56 : Nat → Option VE.Spec := tabOf [(76, wkIn spIsU)]
theorem tb56_76 : tb56 76 = some (wkIn spIsU) := rfl
theorem tb56_ok : TabOK Tryd.prog rt0 tb56 := (tabOf_cons (by kernel_rfl) sat_impl_isUnit tabOf_nil)
set_option maxHeartbeats 4000000 in
theorem sat_impl_Point_valid_0 : Sat Tryd.prog rt0 56 (wkOut spVPt) := by
  refine fn_sat hm ttok (tab := tb56) tb56_ok Tryd.func56 (c := Tryd.f56.body.getD .skip) (by kernel_rfl) (ts := [.tmp 2]) (by kernel_rfl) Tryd.ntmps56 (sq := fun _ => true) (by kernel_rfl) ?_
  intro args ins pk hpre0 hpk
  obtain ⟨rfl, hpre0⟩ := hpre0
  obtain ⟨p, rfl, hpre, hdec⟩ := famPre_ex hpre0
  clear hpre0 hdec
  try simp only [spVPt_pre] at hpre
  replace hpk : pk + 0 ≤ pickLimit := hpk
  refine ⟨Nat.le_of_ble_eq_true rfl, ?_⟩
  simp (config := { maxSteps := 1000000 }) only [go_sem, ↓ifP_true, ↓ifP_false, ↓ifP_not, Nat.reduceLT, Nat.reduceAdd, Nat.reduceBEq, Nat.reduceSub, Nat.reduceLeDiff, Nat.reduceEqDiff, Nat.reduceMul, Int.reduceToNat, Int.reduceEq, Int.reduceLT, Int.reduceLE, Int.reduceAdd, Int.reduceSub, Int.reduceMul, reduceCtorEq, cond_true, cond_false, forall_eq', forall_eq, forall_const, implies_true, if_true, if_false, exists_eq_left', exists_eq', exists_eq, ne_eq, Tryd.f56, tb56_76, spVPt_q, spVPt_A, spVPt_pre, spVPt_post, spIsU_q, spIsU_A, spIsU_pre, spIsU_post]
  repeat' (first | apply And.intro | (intro _) | omega | assumption | with_reducible rfl)
  all_goals (first | (simp_all [vPt]; done))
theorem sat_impl_Point_valid : Sat Tryd.prog rt0 56 (wkIn spVPt) := sat_in (sat_out sat_impl_Point_valid_0)
def tb66 : Nat → Option VE.Spec := tabOf [(88, wkIn spIn)]
theorem tb66_88 : tb66 88 = some (wkIn spIn) := rfl
theorem tb66_ok : TabOK Tryd.prog rt0 tb66 := (tabOf_cons (by kernel_rfl) sat_spec_inRange tabOf_nil)
set_option maxHeartbeats 4000000 in
theorem sat_spec_validPoint_0 : Sat Tryd.prog rt0 66 (wkOut spVPt) := by
  refine fn_sat hm ttok (tab := tb66) tb66_ok Tryd.func66 (c := Tryd.f66.body.getD .skip) (by kernel_rfl) (ts := [.tmp 2]) (by kernel_rfl) Tryd.ntmps66 (sq := fun _ => true) (by kernel_rfl) ?_
  intro args ins pk hpre0 hpk
  obtain ⟨rfl, hpre0⟩ := hpre0
  obtain ⟨p, rfl, hpre, hdec⟩ := famPre_ex hpre0
  clear hpre0 hdec
  try simp only [spVPt_pre] at hpre
  replace hpk : pk + 0 ≤ pickLimit := hpk
  refine ⟨Nat.le_of_ble_eq_true rfl, ?_⟩
  simp (config := { maxSteps := 1000000 }) only [go_sem, ↓ifP_true, ↓ifP_false, ↓ifP_not, Nat.reduceLT, Nat.reduceAdd, Nat.reduceBEq, Nat.reduceSub, Nat.reduceLeDiff, Nat.reduceEqDiff, Nat.reduceMul, Int.reduceToNat, Int.reduceEq, Int.reduceLT, Int.reduceLE, Int.reduceAdd, Int.reduceSub, Int.reduceMul, reduceCtorEq, cond_true, cond_false, forall_eq', forall_eq, forall_const, implies_true, if_true, if_false, exists_eq_left', exists_eq', exists_eq, ne_eq, Tryd.f66, tb66_88, spVPt_q, spVPt_A, spVPt_pre, spVPt_post, spIn_q, spIn_A, spIn_pre, spIn_post]
  repeat' (first | apply And.intro | (intro _) | omega | assumption | with_reducible rfl)
  all_goals (first | (grind [vPt, isU]; done))
theorem sat_spec_validPoint : Sat Tryd.prog rt0 66 (wkIn spVPt) := sat_in (sat_out sat_spec_validPoint_0)
def spNVPt_A : Pt → List AV
  | p => [.agg (ptC p)]
def spNVPt_pre : Pt → Prop
  | p => True
def spNVPt_post : Pt → AV → List Box → Prop
  | p, r, bs => r = B (!vPt p) ∧ bs = []
def spNVPt : VE.Spec := famSpec spNVPt_A d_pt spNVPt_pre spNVPt_post 0 true
theorem spNVPt_q : spNVPt.flat = true ∧ spNVPt.mt = [] ∧ spNVPt.shut = false ∧ spNVPt.cost = 0 ∧ (∀ a i, spNVPt.pre a i = (i = [] ∧ famPre d_pt spNVPt_A spNVPt_pre a)) ∧ ∀ a i r b, spNVPt.post a i r b = (famPost d_pt spNVPt_post a r b) := ⟨rfl, rfl, rfl, rfl, fun _ _ => rfl, fun _ _ _ _ => rfl⟩
def tb55 : Nat → Option VE.Spec := tabOf [(56, wkIn spVPt)]
theorem tb55_56 : tb55 56 = some (wkIn spVPt) := rfl
theorem tb55_ok : TabOK Tryd.prog rt0 tb55 := (tabOf_cons (by kernel_rfl) sat_impl_Point_valid tabOf_nil)
set_option maxHeartbeats 4000000 in
theorem sat_impl_pointsValid_1_0 : Sat Tryd.prog rt0 55 (wkOut spNVPt) := by
  refine fn_sat hm ttok (tab := tb55) tb55_ok Tryd.func55 (c := Tryd.f55.body.getD .skip) (by kernel_rfl) (ts := [.tmp 2]) (by kernel_rfl) Tryd.ntmps55 (sq := fun _ => true) (by kernel_rfl) ?_
  intro args ins pk hpre0 hpk
  obtain ⟨rfl, hpre0⟩ := hpre0
  obtain ⟨p, rfl, hpre, hdec⟩ := famPre_ex hpre0
  clear hpre0 hdec
  try simp only [spNVPt_pre] at hpre
  replace hpk : pk + 0 ≤ pickLimit := hpk
  refine ⟨Nat.le_of_ble_eq_true rfl, ?_⟩
  simp (config := { maxSteps := 1000000 }) only [go_sem, ↓ifP_true, ↓ifP_false, ↓ifP_not, Nat.reduceLT, Nat.reduceAdd, Nat.reduceBEq, Nat.reduceSub, Nat.reduceLeDiff, Nat.reduceEqDiff, Nat.reduceMul, Int.reduceToNat, Int.reduceEq, Int.reduceLT, Int.reduceLE, Int.reduceAdd, Int.reduceSub, Int.reduceMul, reduceCtorEq, cond_true, cond_false, forall_eq', forall_eq, forall_const, implies_true, if_true, if_false, exists_eq_left', exists_eq', exists_eq, ne_eq, Tryd.f55, tb55_56, spNVPt_q, spNVPt_A, spNVPt_pre, spNVPt_post, spVPt_q, spVPt_A, spVPt_pre, spVPt_post]
  repeat' (first | apply And.intro | (intro _) | omega | assumption | with_reducible rfl)
theorem sat_impl_pointsValid_1 : Sat Tryd.prog rt0 55 (wkIn spNVPt) := sat_in (sat_out sat_impl_pointsValid_1_0)
def spIdx_A : (List Pt) → List AV
  | l => [.c (.sl false (l.map ptC)), .c (.fn 55 [])]
def spIdx_pre : (List Pt) → Prop
  | l => l.length ≤ 1000000000
def spIdx_post : (List Pt) → AV → List Box → Prop
  | l, r, bs => ∃ m, r = I m ∧ bs = [] ∧ decide (0 ≤ m) = (!l.all vPt)
def spIdx : VE.Spec := famSpec spIdx_A d_lpt_f55 spIdx_pre spIdx_post 0 true
theorem spIdx_q : spIdx.flat = true ∧ spIdx.mt = [] ∧ spIdx.shut = false ∧ spIdx.cost = 0 ∧ (∀ a i, spIdx.pre a i = (i = [] ∧ famPre d_lpt_f55 spIdx_A spIdx_pre a)) ∧ ∀ a i r b, spIdx.post a i r b = (famPost d_lpt_f55 spIdx_post a r b) := ⟨rfl, rfl, rfl, rfl, fun _ _ => rfl, fun _ _ _ _ => rfl⟩
def tb75 : Nat → Option VE.Spec := tabOf [(55, wkIn spNVPt)]
theorem tb75_55 : tb75 55 = some (wkIn spNVPt) := rfl
theorem tb75_ok : TabOK Tryd.prog rt0 tb75 := (tabOf_cons (by kernel_rfl) sat_impl_pointsValid_1 tabOf_nil)
set_option maxHeartbeats 4000000 in
theorem sat_slices_IndexFunc_impl_Point_impl_Point_0 : Sat Tryd.prog rt0 75 (wkOut spIdx) := by
  refine fn_sat hm ttok (tab := tb75) tb75_ok Tryd.func75 (c := Tryd.f75.body.getD .skip) (by kernel_rfl) (ts := [.tmp 4]) (by kernel_rfl) Tryd.ntmps75 (sq := fun _ => true) (by kernel_rfl) ?_
  intro args ins pk hpre0 hpk
  obtain ⟨rfl, hpre0⟩ := hpre0
  obtain ⟨l, rfl, hpre, hdec⟩ := famPre_ex hpre0
  clear hpre0 hdec
  try simp only [spIdx_pre] at hpre
  replace hpk : pk + 0 ≤ pickLimit := hpk
  refine ⟨Nat.le_of_ble_eq_true rfl, ?_⟩
  simp (config := { maxSteps := 1000000 }) only [go_sem, ↓ifP_true, ↓ifP_false, ↓ifP_not, Nat.reduceLT, Nat.reduceAdd, Nat.reduceBEq, Nat.reduceSub, Nat.reduceLeDiff, Nat.reduceEqDiff, Nat.reduceMul, Int.reduceToNat, Int.reduceEq, Int.reduceLT, Int.reduceLE, Int.reduceAdd, Int.reduceSub, Int.reduceMul, reduceCtorEq, cond_true, cond_false, forall_eq', forall_eq, forall_const, implies_true, if_true, if_false, exists_eq_left', exists_eq', exists_eq, ne_eq, Tryd.f75, tb75_55, spIdx_q, spIdx_A, spIdx_pre, spIdx_post, spNVPt_q, spNVPt_A, spNVPt_pre, spNVPt_post]
  repeat' (first | apply And.intro | (intro _) | omega | assumption | with_reducible rfl)
  refine loopS (α := Int) false [2, 3, 4, 5, 6, 8, 9, 10, 11, 12, 13, 14, 15, 16, 17, 18] (fun σ => []) (fun σ x => [(8, I x)]) (fun σ x => []) (fun i => 0) (fun σ => gI (σ.get 8)) (fun σ τ => []) (fun i => 0 ≤ i ∧ i ≤ l.length ∧ (l.take i.toNat).all vPt = true) (fun i => (l.length - i).toNat) ⟨by (simp (config := { maxSteps := 1000000 }) only [go_sem, ↓ifP_true, ↓ifP_false, ↓ifP_not, Nat.reduceLT, Nat.reduceAdd, Nat.reduceBEq, Nat.reduceSub, Nat.reduceLeDiff, Nat.reduceEqDiff, Nat.reduceMul, Int.reduceToNat, Int.reduceEq, Int.reduceLT, Int.reduceLE, Int.reduceAdd, Int.reduceSub, Int.reduceMul, reduceCtorEq, cond_true, cond_false, forall_eq', forall_eq, forall_const, implies_true, if_true, if_false, exists_eq_left', exists_eq', exists_eq, ne_eq, Tryd.f75, tb75_55, spIdx_q, spIdx_A, spIdx_pre, spIdx_post, spNVPt_q, spNVPt_A, spNVPt_pre, spNVPt_post]; (repeat' (first | apply And.intro | (intro _) | omega | assumption | with_reducible rfl))), ?_⟩
  rintro i hinv
  try dsimp only at hinv
  simp (config := { maxSteps := 1000000 }) only [go_sem, ↓ifP_true, ↓ifP_false, ↓ifP_not, Nat.reduceLT, Nat.reduceAdd, Nat.reduceBEq, Nat.reduceSub, Nat.reduceLeDiff, Nat.reduceEqDiff, Nat.reduceMul, Int.reduceToNat, Int.reduceEq, Int.reduceLT, Int.reduceLE, Int.reduceAdd, Int.reduceSub, Int.reduceMul, reduceCtorEq, cond_true, cond_false, forall_eq', forall_eq, forall_const, implies_true, if_true, if_false, exists_eq_left', exists_eq', exists_eq, ne_eq, Tryd.f75, tb75_55, spIdx_q, spIdx_A, spIdx_pre, spIdx_post, spNVPt_q, spNVPt_A, spNVPt_pre, spNVPt_post]
  repeat' (first | apply And.intro | (intro _) | omega | assumption | with_reducible rfl)
  all_goals (first | (grind [→ takeN, takeA, all_bad]; done))
theorem sat_slices_IndexFunc_impl_Point_impl_Point : Sat Tryd.prog rt0 75 (wkIn spIdx) := sat_in (sat_out sat_slices_IndexFunc_impl_Point_impl_Point_0)
end Go.Proofs.YthphndhiacikaaaDoor
end
section
set_option maxRecDepth 100000
set_option linter.unusedSimpArgs false
set_option linter.unusedVariables false
namespace Go.Proofs.YthphndhiacikaaaDoor
open Go Go.VE
def spHas_A : (List Pt) → List AV
  | l => [.c (.sl false (l.map ptC)), .c (.fn 55 [])]
def spHas_pre : (List Pt) → Prop
  | l => l.length ≤ 1000000000
def spHas_post : (List Pt) → AV → List Box → Prop
  | l, r, bs => r = B (!l.all vPt) ∧ bs = []
def spHas : VE.Spec := famSpec spHas_A d_lpt_f55 spHas_pre spHas_post 0 true
theorem spHas_q : spHas.flat = true ∧ spHas.mt = [] ∧ spHas.shut = false ∧ spHas.cost = 0 ∧ (∀ a i, spHas.pre a i = (i = [] ∧ famPre d_lpt_f55 spHas_A spHas_pre a)) ∧ ∀ a i r b, spHas.post a i r b = (famPost d_lpt_f55 spHas_post a r b) := ⟨rfl, rfl, rfl, rfl, fun _ _ => rfl, fun _ _ _ _ => rfl⟩
def tb54 : Nat → Option VE.Spec := tabOf [(75, wkIn spIdx)]
theorem tb54_75 : tb54 75 = some (wkIn spIdx) := rfl
theorem tb54_ok : TabOK Tryd.prog rt0 tb54 := (tabOf_cons (by kernel_rfl) sat_slices_IndexFunc_impl_Point_impl_Point tabOf_nil)
set_option maxHeartbeats 4000000 in
theorem sat_slices_ContainsFunc_impl_Point_impl_Point_0 : Sat Tryd.prog rt0 54 (wkOut spHas) := by
  refine fn_sat hm ttok (tab := tb54) tb54_ok Tryd.func54 (c := Tryd.f54.body.getD .skip) (by kernel_rfl) (ts := [.tmp 4]) (by kernel_rfl) Tryd.ntmps54 (sq := fun _ => true) (by kernel_rfl) ?_
  intro args ins pk hpre0 hpk
  obtain ⟨rfl, hpre0⟩ := hpre0
  obtain ⟨l, rfl, hpre, hdec⟩ := famPre_ex hpre0
  clear hpre0 hdec
  try simp only [spHas_pre] at hpre
  replace hpk : pk + 0 ≤ pickLimit := hpk
  refine ⟨Nat.le_of_ble_eq_true rfl, ?_⟩
  simp (config := { maxSteps := 1000000 }) only [go_sem, ↓ifP_true, ↓ifP_false, ↓ifP_not, Nat.reduceLT, Nat.reduceAdd, Nat.reduceBEq, Nat.reduceSub, Nat.reduceLeDiff, Nat.reduceEqDiff, Nat.reduceMul, Int.reduceToNat, Int.reduceEq, Int.reduceLT, Int.reduceLE, Int.reduceAdd, Int.reduceSub, Int.reduceMul, reduceCtorEq, cond_true, cond_false, forall_eq', forall_eq, forall_const, implies_true, if_true, if_false, exists_eq_left', exists_eq', exists_eq, ne_eq, Tryd.f54, tb54_75, spHas_q, spHas_A, spHas_pre, spHas_post, spIdx_q, spIdx_A, spIdx_pre, spIdx_post]
  repeat' (first | apply And.intro | (intro _) | omega | assumption | with_reducible rfl)
  all_goals (first | (grind; done))
theorem sat_slices_ContainsFunc_impl_Point_impl_Point : Sat Tryd.prog rt0 54 (wkIn spHas) := sat_in (sat_out sat_slices_ContainsFunc_impl_Point_impl_Point_0)
def spVPts_A : (List Pt) → List AV
  | l => [.c (.sl false (l.map ptC))]
def spVPts_pre : (List Pt) → Prop
  | l => l.length ≤ 1000000000
def spVPts_post : (List Pt) → AV → List Box → Prop
  | l, r, bs => r = B (vPts l) ∧ bs = []
def spVPts : VE.Spec := famSpec spVPts_A d_lpt spVPts_pre spVPts_post 0 true
theorem spVPts_q : spVPts.flat = true ∧ spVPts.mt = [] ∧ spVPts.shut = false ∧ spVPts.cost = 0 ∧ (∀ a i, spVPts.pre a i = (i = [] ∧ famPre d_lpt spVPts_A spVPts_pre a)) ∧ ∀ a i r b, spVPts.post a i r b = (famPost d_lpt spVPts_post a r b) := ⟨rfl, rfl, rfl, rfl, fun _ _ => rfl, fun _ _ _ _ => rfl⟩
def tb28 : Nat → Option VE.Spec := tabOf [(54, wkIn spHas)]
theorem tb28_54 : tb28 54 = some (wkIn spHas) := rfl
theorem tb28_ok : TabOK Tryd.prog rt0 tb28 := (tabOf_cons (by kernel_rfl) sat_slices_ContainsFunc_impl_Point_impl_Point tabOf_nil)
set_option maxHeartbeats 4000000 in
theorem sat_impl_pointsValid_0 : Sat Tryd.prog rt0 28 (wkOut spVPts) := by
  refine fn_sat hm ttok (tab := tb28) tb28_ok Tryd.func28 (c := Tryd.f28.body.getD .skip) (by kernel_rfl) (ts := [.tmp 2]) (by kernel_rfl) Tryd.ntmps28 (sq := fun _ => true) (by kernel_rfl) ?_
  intro args ins pk hpre0 hpk
  obtain ⟨rfl, hpre0⟩ := hpre0
  obtain ⟨l, rfl, hpre, hdec⟩ := famPre_ex hpre0
  clear hpre0 hdec
  try simp only [spVPts_pre] at hpre
  replace hpk : pk + 0 ≤ pickLimit := hpk
  refine ⟨Nat.le_of_ble_eq_true rfl, ?_⟩
  simp (config := { maxSteps := 1000000 }) only [go_sem, ↓ifP_true, ↓ifP_false, ↓ifP_not, Nat.reduceLT, Nat.reduceAdd, Nat.reduceBEq, Nat.reduceSub, Nat.reduceLeDiff, Nat.reduceEqDiff, Nat.reduceMul, Int.reduceToNat, Int.reduceEq, Int.reduceLT, Int.reduceLE, Int.reduceAdd, Int.reduceSub, Int.reduceMul, reduceCtorEq, cond_true, cond_false, forall_eq', forall_eq, forall_const, implies_true, if_true, if_false, exists_eq_left', exists_eq', exists_eq, ne_eq, Tryd.f28, tb28_54, spVPts_q, spVPts_A, spVPts_pre, spVPts_post, spHas_q, spHas_A, spHas_pre, spHas_post, vPts]
  repeat' (first | apply And.intro | (intro _) | omega | assumption | with_reducible rfl)
  all_goals (first | ((simp only [decide_eq_decide, true_eq_decide_iff, false_eq_decide_iff, Bool.not_eq_eq_eq_not, Bool.not_true, Bool.not_false]; omega); done) | (grind; done))
theorem sat_impl_pointsValid : Sat Tryd.prog rt0 28 (wkIn spVPts) := sat_in (sat_out sat_impl_pointsValid_0)
def tb41 : Nat → Option VE.Spec := tabOf [(66, wkIn spVPt)]
theorem tb41_66 : tb41 66 = some (wkIn spVPt) := rfl
theorem tb41_ok : TabOK Tryd.prog rt0 tb41 := (tabOf_cons (by kernel_rfl) sat_spec_validPoint tabOf_nil)
set_option maxHeartbeats 4000000 in
theorem sat_spec_validPoints_0 : Sat Tryd.prog rt0 41 (wkOut spVPts) := by
  refine fn_sat hm ttok (tab := tb41) tb41_ok Tryd.func41 (c := Tryd.f41.body.getD .skip) (by kernel_rfl) (ts := [.tmp 2]) (by kernel_rfl) Tryd.ntmps41 (sq := fun _ => true) (by kernel_rfl) ?_
  intro args ins pk hpre0 hpk
  obtain ⟨rfl, hpre0⟩ := hpre0
  obtain ⟨l, rfl, hpre, hdec⟩ := famPre_ex hpre0
  clear hpre0 hdec
  try simp only [spVPts_pre] at hpre
  replace hpk : pk + 0 ≤ pickLimit := hpk
  refine ⟨Nat.le_of_ble_eq_true rfl, ?_⟩
  simp (config := { maxSteps := 1000000 }) only [go_sem, ↓ifP_true, ↓ifP_false, ↓ifP_not, Nat.reduceLT, Nat.reduceAdd, Nat.reduceBEq, Nat.reduceSub, Nat.reduceLeDiff, Nat.reduceEqDiff, Nat.reduceMul, Int.reduceToNat, Int.reduceEq, Int.reduceLT, Int.reduceLE, Int.reduceAdd, Int.reduceSub, Int.reduceMul, reduceCtorEq, cond_true, cond_false, forall_eq', forall_eq, forall_const, implies_true, if_true, if_false, exists_eq_left', exists_eq', exists_eq, ne_eq, Tryd.f41, tb41_66, spVPts_q, spVPts_A, spVPts_pre, spVPts_post, spVPt_q, spVPt_A, spVPt_pre, spVPt_post]
  repeat' (first | apply And.intro | (intro _) | omega | assumption | with_reducible rfl)
  refine loopS (α := Int) false [1, 2, 3, 4, 5, 6, 7, 8, 9, 10, 11, 12, 13, 14, 15] (fun σ => []) (fun σ x => [(3, I x)]) (fun σ x => []) (fun i => 0) (fun σ => gI (σ.get 3)) (fun σ τ => []) (fun i => 0 ≤ i ∧ i ≤ l.length ∧ (l.take i.toNat).all vPt = true) (fun i => (l.length - i).toNat) ⟨by (simp (config := { maxSteps := 1000000 }) only [go_sem, ↓ifP_true, ↓ifP_false, ↓ifP_not, Nat.reduceLT, Nat.reduceAdd, Nat.reduceBEq, Nat.reduceSub, Nat.reduceLeDiff, Nat.reduceEqDiff, Nat.reduceMul, Int.reduceToNat, Int.reduceEq, Int.reduceLT, Int.reduceLE, Int.reduceAdd, Int.reduceSub, Int.reduceMul, reduceCtorEq, cond_true, cond_false, forall_eq', forall_eq, forall_const, implies_true, if_true, if_false, exists_eq_left', exists_eq', exists_eq, ne_eq, Tryd.f41, tb41_66, spVPts_q, spVPts_A, spVPts_pre, spVPts_post, spVPt_q, spVPt_A, spVPt_pre, spVPt_post]; (repeat' (first | apply And.intro | (intro _) | omega | assumption | with_reducible rfl))), ?_⟩
  rintro i hinv
  try dsimp only at hinv
  simp (config := { maxSteps := 1000000 }) only [go_sem, ↓ifP_true, ↓ifP_false, ↓ifP_not, Nat.reduceLT, Nat.reduceAdd, Nat.reduceBEq, Nat.reduceSub, Nat.reduceLeDiff, Nat.reduceEqDiff, Nat.reduceMul, Int.reduceToNat, Int.reduceEq, Int.reduceLT, Int.reduceLE, Int.reduceAdd, Int.reduceSub, Int.reduceMul, reduceCtorEq, cond_true, cond_false, forall_eq', forall_eq, forall_const, implies_true, if_true, if_false, exists_eq_left', exists_eq', exists_eq, ne_eq, Tryd.f41, tb41_66, spVPts_q, spVPts_A, spVPts_pre, spVPts_post, spVPt_q, spVPt_A, spVPt_pre, spVPt_post]
  repeat' (first | apply And.intro | (intro _) | omega | assumption | with_reducible rfl)
  all_goals (first | (grind [→ takeN, takeA, all_bad, vPts]; done))
theorem sat_spec_validPoints : Sat Tryd.prog rt0 41 (wkIn spVPts) := sat_in (sat_out sat_spec_validPoints_0)
def total {α : Type} (L : List (List α)) : Nat := (L.map List.length).sum
theorem total_snoc {α : Type} (L : List (List α)) (l : List α) : total (L ++ [l]) = total L + l.length := by simp [total]
theorem total_take {α : Type} (L : List (List α)) (i : Nat) : total (L.take i) ≤ total L := by
  have h := List.take_append_drop i L
  have : total L = total (L.take i) + total (L.drop i) := by
    conv => lhs; rw [← h]
    simp only [total, List.map_append, List.sum_append]
  omega
def vRing (r : List Pt) : Bool := !r.isEmpty && vPts r
def vRings (L : List (List Pt)) : Bool := L.all vRing && decide (L.length ≤ 8) && decide (total L ≤ 200)
theorem vRing_iff (r : List Pt) : vRing r = (!decide (r.length = 0) && vPts r) := by cases r <;> simp [vRing]
theorem total_mem {α : Type} {L : List (List α)} {i : Nat} {r : List α} (h : L[i]? = some r) : total (L.take i) + r.length ≤ total L := by
  have := total_take L (i + 1)
  rw [List.take_add_one, h] at this
  simp only [Option.toList_some, total_snoc] at this
  exact this
def spVRings_A : (List (List Pt)) → List AV
  | L => [.c (.sl false (L.map lptC))]
def spVRings_pre : (List (List Pt)) → Prop
  | L => L.length ≤ 1000000000 ∧ total L ≤ 1000000000
def spVRings_post : (List (List Pt)) → AV → List Box → Prop
  | L, r, bs => r = B (vRings L) ∧ bs = []
def spVRings : VE.Spec := famSpec spVRings_A d_llpt spVRings_pre spVRings_post 0 true
theorem spVRings_q : spVRings.flat = true ∧ spVRings.mt = [] ∧ spVRings.shut = false ∧ spVRings.cost = 0 ∧ (∀ a i, spVRings.pre a i = (i = [] ∧ famPre d_llpt spVRings_A spVRings_pre a)) ∧ ∀ a i r b, spVRings.post a i r b = (famPost d_llpt spVRings_post a r b) := ⟨rfl, rfl, rfl, rfl, fun _ _ => rfl, fun _ _ _ _ => rfl⟩
end Go.Proofs.YthphndhiacikaaaDoor
end
section
set_option maxRecDepth 100000
set_option linter.unusedSimpArgs false
set_option linter.unusedVariables false
namespace Go.Proofs.YthphndhiacikaaaDoor
open Go Go.VE
theorem fdiv_eq (a b : Int) : a / b = if 0 < b then (if a.tmod b < 0 then a.tdiv b - 1 else a.tdiv b) else a / b := by
  split
  · rename_i hb
    have e := Int.mul_tdiv_add_tmod a b
    have e1 := Int.mul_ediv_add_emod a b
    have m1 := Int.emod_nonneg a (by omega : b ≠ 0)
    have m2 := Int.emod_lt_of_pos a hb
    have t1 := Int.tmod_lt_of_pos a hb
    have t0 : -b < a.tmod b := by
      rcases Int.lt_or_le a 0 with ha | ha
      · have := Int.tmod_lt_of_pos (-a) hb
        rw [Int.neg_tmod] at this
        omega
      · have := Int.tmod_nonneg b ha
        omega
    generalize a / b = q at *
    generalize a % b = r at *
    generalize a.tdiv b = s at *
    generalize a.tmod b = t at *
    have hk : b * (q - s) = t - r := by rw [Int.mul_sub]; omega
    have h1 : q - s < 1 ∧ -2 < q - s := by
      constructor
      · by_cases h : q - s < 1
        · exact h
        · have := Int.mul_le_mul_of_nonneg_left (show 1 ≤ q - s by omega) (show 0 ≤ b by omega)
          omega
      · by_cases h : -2 < q - s
        · exact h
        · have := Int.mul_le_mul_of_nonneg_left (show q - s ≤ -2 by omega) (show 0 ≤ b by omega)
          omega
    have h2 : q - s = 0 ∨ q - s = -1 := by omega
    rcases h2 with h2 | h2 <;> rw [h2] at hk <;> split <;> omega
  · rfl
def insN (n rule : Int) : Bool := if rule = 1 then decide (n % 2 = 1) else decide (n ≠ 0)
def isRl (n : Int) : Bool := decide (n = 0 ∨ n = 1)
def szd (w h : Int) : Bool := decide ((1 ≤ w ∧ w ≤ 12) ∧ 1 ≤ h ∧ h ≤ 12)
def acr (w : Int) : Int := (w + 3) / 4
def tcnt (w h : Int) : Int := if szd w h = true then acr w * acr h else -1
def isT (w h t : Int) : Bool := szd w h && decide (0 ≤ t ∧ t < acr w * acr h)
def tbox (w h t : Int) : Bx := ⟨t % acr w * 4, t / acr w * 4, min (t % acr w * 4 + 4) w, min (t / acr w * 4 + 4) h⟩
theorem acr_in {w : Int} (h : 1 ≤ w ∧ w ≤ 12) : 1 ≤ acr w ∧ acr w ≤ 3 := by unfold acr; omega
theorem acr_mul {w h : Int} (hs : szd w h = true) : (1 ≤ acr w ∧ acr w ≤ 3) ∧ (1 ≤ acr h ∧ acr h ≤ 3) ∧ 1 ≤ acr w * acr h ∧ acr w * acr h ≤ 9 := by
  simp only [szd, decide_eq_true_eq] at hs
  have h1 := acr_in hs.1
  have h2 := acr_in hs.2
  refine ⟨h1, h2, ?_, ?_⟩
  · have := Int.mul_le_mul h1.1 h2.1 (by omega) (by omega); omega
  · have := Int.mul_le_mul h1.2 h2.2 (by omega) (by omega); omega
theorem tdiv_nn {a b : Int} (h : 0 ≤ a) : a.tdiv b = a / b := Int.tdiv_eq_ediv_of_nonneg h
theorem tmod_nn {a b : Int} (h : 0 ≤ a) : a.tmod b = a % b := Int.tmod_eq_emod_of_nonneg h
theorem tmod2 (n : Int) : n.tmod 2 ≠ 0 ↔ n % 2 = 1 := by
  constructor <;> intro h <;> (have := Int.tmod_eq_emod (a := n) (b := 2); split at this <;> omega)
def spRl_A : Int → List AV
  | n => [I n]
def spRl_pre : Int → Prop
  | n => True
def spRl_post : Int → AV → List Box → Prop
  | n, r, bs => r = B (isRl n) ∧ bs = []
def spRl : VE.Spec := famSpec spRl_A d_i spRl_pre spRl_post 0 true
theorem spRl_q : spRl.flat = true ∧ spRl.mt = [] ∧ spRl.shut = false ∧ spRl.cost = 0 ∧ (∀ a i, spRl.pre a i = (i = [] ∧ famPre d_i spRl_A spRl_pre a)) ∧ ∀ a i r b, spRl.post a i r b = (famPost d_i spRl_post a r b) := ⟨rfl, rfl, rfl, rfl, fun _ _ => rfl, fun _ _ _ _ => rfl⟩
def spIns_A : Int × Int → List AV
  | (n, rl) => [I n, I rl]
def spIns_pre : Int × Int → Prop
  | (n, rl) => -1000000 ≤ n ∧ n ≤ 1000000
def spIns_post : Int × Int → AV → List Box → Prop
  | (n, rl), r, bs => r = B (insN n rl) ∧ bs = []
def spIns : VE.Spec := famSpec spIns_A d_i_i spIns_pre spIns_post 0 true
theorem spIns_q : spIns.flat = true ∧ spIns.mt = [] ∧ spIns.shut = false ∧ spIns.cost = 0 ∧ (∀ a i, spIns.pre a i = (i = [] ∧ famPre d_i_i spIns_A spIns_pre a)) ∧ ∀ a i r b, spIns.post a i r b = (famPost d_i_i spIns_post a r b) := ⟨rfl, rfl, rfl, rfl, fun _ _ => rfl, fun _ _ _ _ => rfl⟩
def spDist_A : Int → List AV
  | n => [I n]
def spDist_pre : Int → Prop
  | n => -1000000000000 ≤ n ∧ n ≤ 1000000000000
def spDist_post : Int → AV → List Box → Prop
  | n, r, bs => r = I (if n < 0 then -n else n) ∧ bs = []
def spDist : VE.Spec := famSpec spDist_A d_i spDist_pre spDist_post 0 true
theorem spDist_q : spDist.flat = true ∧ spDist.mt = [] ∧ spDist.shut = false ∧ spDist.cost = 0 ∧ (∀ a i, spDist.pre a i = (i = [] ∧ famPre d_i spDist_A spDist_pre a)) ∧ ∀ a i r b, spDist.post a i r b = (famPost d_i spDist_post a r b) := ⟨rfl, rfl, rfl, rfl, fun _ _ => rfl, fun _ _ _ _ => rfl⟩
def spToInt_A : Bool → List AV
  | b => [B b]
def spToInt_pre : Bool → Prop
  | b => True
def spToInt_post : Bool → AV → List Box → Prop
  | b, r, bs => r = I (if b then 1 else 0) ∧ bs = []
def spToInt : VE.Spec := famSpec spToInt_A d_b spToInt_pre spToInt_post 0 true
theorem spToInt_q : spToInt.flat = true ∧ spToInt.mt = [] ∧ spToInt.shut = false ∧ spToInt.cost = 0 ∧ (∀ a i, spToInt.pre a i = (i = [] ∧ famPre d_b spToInt_A spToInt_pre a)) ∧ ∀ a i r b, spToInt.post a i r b = (famPost d_b spToInt_post a r b) := ⟨rfl, rfl, rfl, rfl, fun _ _ => rfl, fun _ _ _ _ => rfl⟩
def tb111 : Nat → Option VE.Spec := tabOf []
theorem tb111_ok : TabOK Tryd.prog rt0 tb111 := tabOf_nil
set_option maxHeartbeats 4000000 in
theorem sat_spec_toInt_0 : Sat Tryd.prog rt0 111 (wkOut spToInt) := by
  refine fn_sat hm ttok (tab := tb111) tb111_ok Tryd.func111 (c := Tryd.f111.body.getD .skip) (by kernel_rfl) (ts := [.tmp 2]) (by kernel_rfl) Tryd.ntmps111 (sq := fun _ => true) (by kernel_rfl) ?_
  intro args ins pk hpre0 hpk
  obtain ⟨rfl, hpre0⟩ := hpre0
  obtain ⟨b, rfl, hpre, hdec⟩ := famPre_ex hpre0
  clear hpre0 hdec
  try simp only [spToInt_pre] at hpre
  replace hpk : pk + 0 ≤ pickLimit := hpk
  refine ⟨Nat.le_of_ble_eq_true rfl, ?_⟩
  simp (config := { maxSteps := 1000000 }) only [go_sem, ↓ifP_true, ↓ifP_false, ↓ifP_not, Nat.reduceLT, Nat.reduceAdd, Nat.reduceBEq, Nat.reduceSub, Nat.reduceLeDiff, Nat.reduceEqDiff, Nat.reduceMul, Int.reduceToNat, Int.reduceEq, Int.reduceLT, Int.reduceLE, Int.reduceAdd, Int.reduceSub, Int.reduceMul, reduceCtorEq, cond_true, cond_false, forall_eq', forall_eq, forall_const, implies_true, if_true, if_false, exists_eq_left', exists_eq', exists_eq, ne_eq, Tryd.f111, spToInt_q, spToInt_A, spToInt_pre, spToInt_post]
  repeat' (first | apply And.intro | (intro _) | omega | assumption | with_reducible rfl)
  all_goals (first | (simp_all; done))
theorem sat_spec_toInt : Sat Tryd.prog rt0 111 (wkIn spToInt) := sat_in (sat_out sat_spec_toInt_0)
def spSamp_A : Int → List AV
  | n => [I n]
def spSamp_pre : Int → Prop
  | n => -1000000 ≤ n ∧ n ≤ 1000000
def spSamp_post : Int → AV → List Box → Prop
  | n, r, bs => r = I (2 + 4 * n) ∧ bs = []
def spSamp : VE.Spec := famSpec spSamp_A d_i spSamp_pre spSamp_post 0 true
theorem spSamp_q : spSamp.flat = true ∧ spSamp.mt = [] ∧ spSamp.shut = false ∧ spSamp.cost = 0 ∧ (∀ a i, spSamp.pre a i = (i = [] ∧ famPre d_i spSamp_A spSamp_pre a)) ∧ ∀ a i r b, spSamp.post a i r b = (famPost d_i spSamp_post a r b) := ⟨rfl, rfl, rfl, rfl, fun _ _ => rfl, fun _ _ _ _ => rfl⟩
def spSzd_A : Int × Int → List AV
  | (w, h) => [I w, I h]
def spSzd_pre : Int × Int → Prop
  | (w, h) => True
def spSzd_post : Int × Int → AV → List Box → Prop
  | (w, h), r, bs => r = B (szd w h) ∧ bs = []
def spSzd : VE.Spec := famSpec spSzd_A d_i_i spSzd_pre spSzd_post 0 true
theorem spSzd_q : spSzd.flat = true ∧ spSzd.mt = [] ∧ spSzd.shut = false ∧ spSzd.cost = 0 ∧ (∀ a i, spSzd.pre a i = (i = [] ∧ famPre d_i_i spSzd_A spSzd_pre a)) ∧ ∀ a i r b, spSzd.post a i r b = (famPost d_i_i spSzd_post a r b) := ⟨rfl, rfl, rfl, rfl, fun _ _ => rfl, fun _ _ _ _ => rfl⟩
def spAcr_A : Int → List AV
  | w => [I w]
def spAcr_pre : Int → Prop
  | w => 0 ≤ w ∧ w ≤ 1000000
def spAcr_post : Int → AV → List Box → Prop
  | w, r, bs => r = I (acr w) ∧ bs = []
def spAcr : VE.Spec := famSpec spAcr_A d_i spAcr_pre spAcr_post 0 true
theorem spAcr_q : spAcr.flat = true ∧ spAcr.mt = [] ∧ spAcr.shut = false ∧ spAcr.cost = 0 ∧ (∀ a i, spAcr.pre a i = (i = [] ∧ famPre d_i spAcr_A spAcr_pre a)) ∧ ∀ a i r b, spAcr.post a i r b = (famPost d_i spAcr_post a r b) := ⟨rfl, rfl, rfl, rfl, fun _ _ => rfl, fun _ _ _ _ => rfl⟩
def spTc_A : Int × Int → List AV
  | (w, h) => [I w, I h]
def spTc_pre : Int × Int → Prop
  | (w, h) => True
def spTc_post : Int × Int → AV → List Box → Prop
  | (w, h), r, bs => r = I (tcnt w h) ∧ bs = []
def spTc : VE.Spec := famSpec spTc_A d_i_i spTc_pre spTc_post 0 true
theorem spTc_q : spTc.flat = true ∧ spTc.mt = [] ∧ spTc.shut = false ∧ spTc.cost = 0 ∧ (∀ a i, spTc.pre a i = (i = [] ∧ famPre d_i_i spTc_A spTc_pre a)) ∧ ∀ a i r b, spTc.post a i r b = (famPost d_i_i spTc_post a r b) := ⟨rfl, rfl, rfl, rfl, fun _ _ => rfl, fun _ _ _ _ => rfl⟩
end Go.Proofs.YthphndhiacikaaaDoor
end
section
set_option maxRecDepth 100000
set_option linter.unusedSimpArgs false
set_option linter.unusedVariables false
namespace Go.Proofs.YthphndhiacikaaaDoor
open Go Go.VE
def spFloor_A : Int × Int → List AV
  | (a, b) => [I a, I b]
def spFloor_pre : Int × Int → Prop
  | (a, b) => 1 ≤ b ∧ b ≤ 1000000000000000 ∧ -1000000000000000 ≤ a ∧ a ≤ 1000000000000000
def spFloor_post : Int × Int → AV → List Box → Prop
  | (a, b), r, bs => r = I (a / b) ∧ bs = []
def spFloor : VE.Spec := famSpec spFloor_A d_i_i spFloor_pre spFloor_post 0 true
theorem spFloor_q : spFloor.flat = true ∧ spFloor.mt = [] ∧ spFloor.shut = false ∧ spFloor.cost = 0 ∧ (∀ a i, spFloor.pre a i = (i = [] ∧ famPre d_i_i spFloor_A spFloor_pre a)) ∧ ∀ a i r b, spFloor.post a i r b = (famPost d_i_i spFloor_post a r b) := ⟨rfl, rfl, rfl, rfl, fun _ _ => rfl, fun _ _ _ _ => rfl⟩
structure okP (p : Pt) : Prop where
  x0 : -3000 ≤ p.x
  x1 : p.x ≤ 3000
  y0 : -3000 ≤ p.y
  y1 : p.y ≤ 3000
def mid (a b : Pt) : Pt := ⟨(a.x + b.x) / 2, (a.y + b.y) / 2⟩
theorem mul_bd {a b : Int} {m n : Int} (h1 : -m ≤ a) (h2 : a ≤ m) (h3 : -n ≤ b) (h4 : b ≤ n) : -(m * n) ≤ a * b ∧ a * b ≤ m * n := by
  have hm : 0 ≤ m := by omega
  have hn : 0 ≤ n := by omega
  have q : (a * b).natAbs ≤ (m * n).natAbs := by
    rw [Int.natAbs_mul, Int.natAbs_mul]
    exact Nat.mul_le_mul (by omega) (by omega)
  have : 0 ≤ m * n := Int.mul_nonneg hm hn
  omega
def stepE (e : Edge) (y : Int) : Int := if e.p.y ≤ y ∧ y < e.q.y then 1 else if e.q.y ≤ y ∧ y < e.p.y then -1 else 0
def leftE (e : Edge) (x y : Int) : Bool := decide ((if e.q.y - e.p.y < 0 then -((e.q.x - e.p.x) * (y - e.p.y) - (x - e.p.x) * (e.q.y - e.p.y)) else (e.q.x - e.p.x) * (y - e.p.y) - (x - e.p.x) * (e.q.y - e.p.y)) ≤ 0)
def con (e : Edge) (x y : Int) : Int := if leftE e x y = true then stepE e y else 0
def sgn (n : Int) : Int := if 0 < n then 1 else if n < 0 then -1 else 0
def okE (e : Edge) : Prop := okP e.p ∧ okP e.q
def spStep_A : Edge × Int → List AV
  | (e, y) => [.agg (edC e), I y]
def spStep_pre : Edge × Int → Prop
  | (e, y) => True
def spStep_post : Edge × Int → AV → List Box → Prop
  | (e, y), r, bs => r = I (stepE e y) ∧ bs = []
def spStep : VE.Spec := famSpec spStep_A d_ed_i spStep_pre spStep_post 0 true
theorem spStep_q : spStep.flat = true ∧ spStep.mt = [] ∧ spStep.shut = false ∧ spStep.cost = 0 ∧ (∀ a i, spStep.pre a i = (i = [] ∧ famPre d_ed_i spStep_A spStep_pre a)) ∧ ∀ a i r b, spStep.post a i r b = (famPost d_ed_i spStep_post a r b) := ⟨rfl, rfl, rfl, rfl, fun _ _ => rfl, fun _ _ _ _ => rfl⟩
def spLeft_A : Edge × Int × Int → List AV
  | (e, x, y) => [.agg (edC e), I x, I y]
def spLeft_pre : Edge × Int × Int → Prop
  | (e, x, y) => okE e ∧ (-3000 ≤ x ∧ x ≤ 3000) ∧ -3000 ≤ y ∧ y ≤ 3000
def spLeft_post : Edge × Int × Int → AV → List Box → Prop
  | (e, x, y), r, bs => r = B (leftE e x y) ∧ bs = []
def spLeft : VE.Spec := famSpec spLeft_A d_ed_i_i spLeft_pre spLeft_post 0 true
theorem spLeft_q : spLeft.flat = true ∧ spLeft.mt = [] ∧ spLeft.shut = false ∧ spLeft.cost = 0 ∧ (∀ a i, spLeft.pre a i = (i = [] ∧ famPre d_ed_i_i spLeft_A spLeft_pre a)) ∧ ∀ a i r b, spLeft.post a i r b = (famPost d_ed_i_i spLeft_post a r b) := ⟨rfl, rfl, rfl, rfl, fun _ _ => rfl, fun _ _ _ _ => rfl⟩
def spSide_A : Pt × Pt × Int × Int → List AV
  | (a, b, x, y) => [.agg (ptC a), .agg (ptC b), I x, I y]
def spSide_pre : Pt × Pt × Int × Int → Prop
  | (a, b, x, y) => okP a ∧ okP b ∧ (-3000 ≤ x ∧ x ≤ 3000) ∧ -3000 ≤ y ∧ y ≤ 3000
def spSide_post : Pt × Pt × Int × Int → AV → List Box → Prop
  | (a, b, x, y), r, bs => r = I (sgn ((x - a.x) * (b.y - a.y) - (y - a.y) * (b.x - a.x))) ∧ bs = []
def spSide : VE.Spec := famSpec spSide_A d_pt_pt_i_i spSide_pre spSide_post 0 true
theorem spSide_q : spSide.flat = true ∧ spSide.mt = [] ∧ spSide.shut = false ∧ spSide.cost = 0 ∧ (∀ a i, spSide.pre a i = (i = [] ∧ famPre d_pt_pt_i_i spSide_A spSide_pre a)) ∧ ∀ a i r b, spSide.post a i r b = (famPost d_pt_pt_i_i spSide_post a r b) := ⟨rfl, rfl, rfl, rfl, fun _ _ => rfl, fun _ _ _ _ => rfl⟩
theorem con_side (e : Edge) (x y : Int) : con e x y = if e.p.y ≤ y ∧ y < e.q.y ∧ 0 ≤ sgn ((x - e.p.x) * (e.q.y - e.p.y) - (y - e.p.y) * (e.q.x - e.p.x)) then 1 else if e.q.y ≤ y ∧ y < e.p.y ∧ 0 ≤ sgn ((x - e.q.x) * (e.p.y - e.q.y) - (y - e.q.y) * (e.p.x - e.q.x)) then -1 else 0 := by
  have h1 : (x - e.q.x) * (e.p.y - e.q.y) - (y - e.q.y) * (e.p.x - e.q.x) = -((x - e.p.x) * (e.q.y - e.p.y) - (y - e.p.y) * (e.q.x - e.p.x)) := by grind
  have h2 : (e.q.x - e.p.x) * (y - e.p.y) - (x - e.p.x) * (e.q.y - e.p.y) = -((x - e.p.x) * (e.q.y - e.p.y) - (y - e.p.y) * (e.q.x - e.p.x)) := by grind
  rw [h1]
  simp only [con, leftE, stepE, h2, sgn, decide_eq_true_eq]
  generalize (x - e.p.x) * (e.q.y - e.p.y) - (y - e.p.y) * (e.q.x - e.p.x) = u
  grind
def spStepOf_A : Pt × Pt × Int × Int → List AV
  | (a, b, x, y) => [.agg (ptC a), .agg (ptC b), I x, I y]
def spStepOf_pre : Pt × Pt × Int × Int → Prop
  | (a, b, x, y) => okP a ∧ okP b ∧ (-3000 ≤ x ∧ x ≤ 3000) ∧ -3000 ≤ y ∧ y ≤ 3000
def spStepOf_post : Pt × Pt × Int × Int → AV → List Box → Prop
  | (a, b, x, y), r, bs => r = I (con ⟨a, b⟩ x y) ∧ bs = []
def spStepOf : VE.Spec := famSpec spStepOf_A d_pt_pt_i_i spStepOf_pre spStepOf_post 0 true
theorem spStepOf_q : spStepOf.flat = true ∧ spStepOf.mt = [] ∧ spStepOf.shut = false ∧ spStepOf.cost = 0 ∧ (∀ a i, spStepOf.pre a i = (i = [] ∧ famPre d_pt_pt_i_i spStepOf_A spStepOf_pre a)) ∧ ∀ a i r b, spStepOf.post a i r b = (famPost d_pt_pt_i_i spStepOf_post a r b) := ⟨rfl, rfl, rfl, rfl, fun _ _ => rfl, fun _ _ _ _ => rfl⟩
end Go.Proofs.YthphndhiacikaaaDoor
end
section
set_option maxRecDepth 100000
set_option linter.unusedSimpArgs false
set_option linter.unusedVariables false
namespace Go.Proofs.YthphndhiacikaaaDoor
open Go Go.VE
def spMid_A : Pt × Pt → List AV
  | (a, b) => [.agg (ptC a), .agg (ptC b)]
def spMid_pre : Pt × Pt → Prop
  | (a, b) => okP a ∧ okP b
def spMid_post : Pt × Pt → AV → List Box → Prop
  | (a, b), r, bs => r = .agg (ptC (mid a b)) ∧ bs = []
def spMid : VE.Spec := famSpec spMid_A d_pt_pt spMid_pre spMid_post 0 true
theorem spMid_q : spMid.flat = true ∧ spMid.mt = [] ∧ spMid.shut = false ∧ spMid.cost = 0 ∧ (∀ a i, spMid.pre a i = (i = [] ∧ famPre d_pt_pt spMid_A spMid_pre a)) ∧ ∀ a i r b, spMid.post a i r b = (famPost d_pt_pt spMid_post a r b) := ⟨rfl, rfl, rfl, rfl, fun _ _ => rfl, fun _ _ _ _ => rfl⟩
def bnd1 (b : Bx) (p : Pt) : Bx := ⟨min b.l p.x, min b.t p.y, max b.r p.x, max b.b p.y⟩
def bnd (l : List Pt) : Bx := match l with
  | [] => ⟨0, 0, 0, 0⟩
  | p :: _ => l.foldl bnd1 ⟨p.x, p.y, p.x, p.y⟩
theorem bnd_self (b : Bx) (p : Pt) (h1 : b.l ≤ p.x) (h2 : b.t ≤ p.y) (h3 : p.x ≤ b.r) (h4 : p.y ≤ b.b) : bnd1 b p = b := by
  obtain ⟨l, t, r, b⟩ := b
  simp only [bnd1, Bx.mk.injEq] at *
  omega
end Go.Proofs.YthphndhiacikaaaDoor
end
