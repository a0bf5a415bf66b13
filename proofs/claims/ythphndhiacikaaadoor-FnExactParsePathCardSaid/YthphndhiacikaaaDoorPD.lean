/- Contracts of functions of the program vectorraster, each proved for all states that fit its description. No conditions. -/
import Derived.Test.YthphndhiacikaaaDoorPC
import Derived.Test.YthphndhiacikaaaDoorPA
import Derived.Test.YthphndhiacikaaaDoorKK
set_option linter.unusedSimpArgs false
set_option linter.unusedVariables false
section
set_option maxRecDepth 100000
set_option linter.unusedSimpArgs false
set_option linter.unusedVariables false
namespace Go.Proofs.YthphndhiacikaaaDoor
open Go Go.VE
def polyV (l : List Pt) : List Verb := (l.mapIdx fun i p => ⟨if i = 0 then 0 else 1, [p]⟩) ++ [⟨4, []⟩]
theorem polyV_step {l : List Pt} {i : Int} {p : Pt} (h : l[i.toNat]? = some p) (h0 : 0 ≤ i) : ((l.mapIdx fun i p => (⟨if i = 0 then 0 else 1, [p]⟩ : Verb)).take (i + 1).toNat) = ((l.mapIdx fun i p => (⟨if i = 0 then 0 else 1, [p]⟩ : Verb)).take i.toNat) ++ [⟨if 0 < i then 1 else 0, [p]⟩] := by
  have hk : (l.mapIdx fun i p => (⟨if i = 0 then 0 else 1, [p]⟩ : Verb))[i.toNat]? = some ⟨if 0 < i then 1 else 0, [p]⟩ := by
    simp only [List.getElem?_mapIdx, h, Option.map_some, Option.some.injEq, Verb.mk.injEq, and_true]
    split <;> split <;> omega
  exact takeN hk h0
theorem polyV_end {l : List Pt} {i : Int} {o : List Verb} (h : ¬ i < (l.length : Int)) (ho : o = (l.mapIdx fun i p => (⟨if i = 0 then 0 else 1, [p]⟩ : Verb)).take i.toNat) : o ++ [⟨4, []⟩] = polyV l := by
  rw [ho, takeA (l := l.mapIdx _) (by rw [List.length_mapIdx]; omega)]; rfl
def spPoly_A : (List Pt) → List AV
  | l => [.c (.sl false (l.map ptC))]
def spPoly_pre : (List Pt) → Prop
  | l => l.length ≤ 1000000
def spPoly_post : (List Pt) → AV → List Box → Prop
  | l, r, bs => r = .c (.own 0 (polyV l).length false) ∧ bs = [⟨(polyV l).map vbC, 2, 43, true, false⟩]
def spPoly : VE.Spec := famSpec spPoly_A d_lpt spPoly_pre spPoly_post 0 false
theorem spPoly_q : spPoly.flat = false ∧ spPoly.mt = [] ∧ spPoly.shut = false ∧ spPoly.cost = 0 ∧ (∀ a i, spPoly.pre a i = (i = [] ∧ famPre d_lpt spPoly_A spPoly_pre a)) ∧ ∀ a i r b, spPoly.post a i r b = (famPost d_lpt spPoly_post a r b) := ⟨rfl, rfl, rfl, rfl, fun _ _ => rfl, fun _ _ _ _ => rfl⟩
def tb97 : Nat → Option VE.Spec := tabOf [(111, wkIn spToInt)]
theorem tb97_111 : tb97 111 = some (wkIn spToInt) := rfl
theorem tb97_ok : TabOK Tryd.prog rt0 tb97 := (tabOf_cons (by kernel_rfl) sat_spec_toInt tabOf_nil)
set_option maxHeartbeats 4000000 in
theorem sat_spec_poly_0 : Sat Tryd.prog rt0 97 (wkOut spPoly) := by
  refine fn_sat hm ttok (tab := tb97) tb97_ok Tryd.func97 (c := Tryd.f97.body.getD .skip) (by kernel_rfl) (ts := [.tmp 2]) (by kernel_rfl) Tryd.ntmps97 (sq := fun id => !(id == 5)) (by kernel_rfl) ?_
  intro args ins pk hpre0 hpk
  obtain ⟨rfl, hpre0⟩ := hpre0
  obtain ⟨l, rfl, hpre, hdec⟩ := famPre_ex hpre0
  clear hpre0 hdec
  try simp only [spPoly_pre] at hpre
  replace hpk : pk + 0 ≤ pickLimit := hpk
  refine ⟨Nat.le_of_ble_eq_true rfl, ?_⟩
  simp (config := { maxSteps := 1000000 }) only [go_sem, ↓ifP_true, ↓ifP_false, ↓ifP_not, Nat.reduceLT, Nat.reduceAdd, Nat.reduceBEq, Nat.reduceSub, Nat.reduceLeDiff, Nat.reduceEqDiff, Nat.reduceMul, Int.reduceToNat, Int.reduceEq, Int.reduceLT, Int.reduceLE, Int.reduceAdd, Int.reduceSub, Int.reduceMul, reduceCtorEq, cond_true, cond_false, forall_eq', forall_eq, forall_const, implies_true, if_true, if_false, exists_eq_left', exists_eq', exists_eq, ne_eq, Tryd.f97, tb97_111, spPoly_q, spPoly_A, spPoly_pre, spPoly_post, spToInt_q, spToInt_A, spToInt_pre, spToInt_post]
  repeat' (first | apply And.intro | (intro _) | omega | assumption | with_reducible rfl)
  all_goals try (refine drawI (VE.Plan.first 0 (VE.Plan.first 1 (VE.Plan.first 2 (VE.Plan.first 4 (VE.Plan.first 5 (VE.Plan.first 6 (VE.Plan.first 7 (VE.Plan.alt 3 (VE.Plan.alt 8 (VE.Plan.first 9 (VE.Plan.alt 10 (VE.Plan.alt 11 (VE.Plan.alt 12 VE.Plan.nil VE.Plan.nil) VE.Plan.nil) VE.Plan.nil)) VE.Plan.nil) (VE.Plan.alt 8 (VE.Plan.alt 3 (VE.Plan.first 9 (VE.Plan.alt 10 (VE.Plan.alt 11 (VE.Plan.alt 12 VE.Plan.nil VE.Plan.nil) VE.Plan.nil) VE.Plan.nil)) VE.Plan.nil) VE.Plan.nil))))))))) (by decide +kernel) ?_; simp (config := { maxSteps := 1000000 }) only [go_sem, ↓ifP_true, ↓ifP_false, ↓ifP_not, Nat.reduceLT, Nat.reduceAdd, Nat.reduceBEq, Nat.reduceSub, Nat.reduceLeDiff, Nat.reduceEqDiff, Nat.reduceMul, Int.reduceToNat, Int.reduceEq, Int.reduceLT, Int.reduceLE, Int.reduceAdd, Int.reduceSub, Int.reduceMul, reduceCtorEq, cond_true, cond_false, forall_eq', forall_eq, forall_const, implies_true, if_true, if_false, exists_eq_left', exists_eq', exists_eq, ne_eq, planW, stepW, Go.VE.stepT, Go.VE.clearO, Tryd.f97, tb97_111, spPoly_q, spPoly_A, spPoly_pre, spPoly_post, spToInt_q, spToInt_A, spToInt_pre, spToInt_post]; repeat' (first | apply And.intro | (intro _) | omega | assumption | with_reducible rfl))
  refine loopS (α := (List Verb) × Int) true [1, 3, 4, 5, 6, 7, 8, 9, 10, 11, 12, 13, 14, 15, 16, 17, 18, 19, 20, 21, 22, 23] (fun σ => [gId (σ.get 3)]) (fun σ x => [(3, .c (.own (gId (σ.get 3)) (x.1).length false)), (4, I x.2)]) (fun σ x => [(gId (σ.get 3), some ⟨(x.1).map vbC, 2, 43, true, false⟩)]) (fun (o, i) => 0) (fun σ => (gL vbCd σ (σ.get 3), gI (σ.get 4))) (fun σ τ => [(gId (σ.get 3), gId (τ.get 3))]) (fun (o, i) => 0 ≤ i ∧ i ≤ l.length ∧ o = (l.mapIdx fun i p => (⟨if i = 0 then 0 else 1, [p]⟩ : Verb)).take i.toNat) (fun (o, i) => (l.length - i).toNat) ⟨by (simp (config := { maxSteps := 1000000 }) only [go_sem, ↓ifP_true, ↓ifP_false, ↓ifP_not, Nat.reduceLT, Nat.reduceAdd, Nat.reduceBEq, Nat.reduceSub, Nat.reduceLeDiff, Nat.reduceEqDiff, Nat.reduceMul, Int.reduceToNat, Int.reduceEq, Int.reduceLT, Int.reduceLE, Int.reduceAdd, Int.reduceSub, Int.reduceMul, reduceCtorEq, cond_true, cond_false, forall_eq', forall_eq, forall_const, implies_true, if_true, if_false, exists_eq_left', exists_eq', exists_eq, ne_eq, Tryd.f97, tb97_111, spPoly_q, spPoly_A, spPoly_pre, spPoly_post, spToInt_q, spToInt_A, spToInt_pre, spToInt_post]; (repeat' (first | apply And.intro | (intro _) | omega | assumption | with_reducible rfl)); all_goals (first | rfl)), ?_⟩
  rintro ⟨o, i⟩ hinv
  try dsimp only at hinv
  rcases elemAt l i (by omega) with ⟨hlt, p, hk⟩ | hlt
  all_goals (first | ((have hlt2 := of_eq_true hlt); all_goals simp (config := { maxSteps := 1000000 }) only [go_sem, ↓ifP_true, ↓ifP_false, ↓ifP_not, Nat.reduceLT, Nat.reduceAdd, Nat.reduceBEq, Nat.reduceSub, Nat.reduceLeDiff, Nat.reduceEqDiff, Nat.reduceMul, Int.reduceToNat, Int.reduceEq, Int.reduceLT, Int.reduceLE, Int.reduceAdd, Int.reduceSub, Int.reduceMul, reduceCtorEq, cond_true, cond_false, forall_eq', forall_eq, forall_const, implies_true, if_true, if_false, exists_eq_left', exists_eq', exists_eq, ne_eq, Tryd.f97, tb97_111, spPoly_q, spPoly_A, spPoly_pre, spPoly_post, spToInt_q, spToInt_A, spToInt_pre, spToInt_post, hlt, hk]) | (have hlt2 := of_eq_false hlt; simp (config := { maxSteps := 1000000 }) only [go_sem, ↓ifP_true, ↓ifP_false, ↓ifP_not, Nat.reduceLT, Nat.reduceAdd, Nat.reduceBEq, Nat.reduceSub, Nat.reduceLeDiff, Nat.reduceEqDiff, Nat.reduceMul, Int.reduceToNat, Int.reduceEq, Int.reduceLT, Int.reduceLE, Int.reduceAdd, Int.reduceSub, Int.reduceMul, reduceCtorEq, cond_true, cond_false, forall_eq', forall_eq, forall_const, implies_true, if_true, if_false, exists_eq_left', exists_eq', exists_eq, ne_eq, Tryd.f97, tb97_111, spPoly_q, spPoly_A, spPoly_pre, spPoly_post, spToInt_q, spToInt_A, spToInt_pre, spToInt_post, hlt]))
  all_goals
    repeat' (first | apply And.intro | (intro _) | omega | assumption | with_reducible rfl)
  all_goals try (refine drawI (VE.Plan.first 0 (VE.Plan.first 1 (VE.Plan.first 2 (VE.Plan.first 4 (VE.Plan.first 5 (VE.Plan.first 6 (VE.Plan.first 7 (VE.Plan.alt 3 (VE.Plan.alt 8 (VE.Plan.first 9 (VE.Plan.alt 10 (VE.Plan.alt 11 (VE.Plan.alt 12 VE.Plan.nil VE.Plan.nil) VE.Plan.nil) VE.Plan.nil)) VE.Plan.nil) (VE.Plan.alt 8 (VE.Plan.alt 3 (VE.Plan.first 9 (VE.Plan.alt 10 (VE.Plan.alt 11 (VE.Plan.alt 12 VE.Plan.nil VE.Plan.nil) VE.Plan.nil) VE.Plan.nil)) VE.Plan.nil) VE.Plan.nil))))))))) (by decide +kernel) ?_; (first | simp (config := { maxSteps := 1000000 }) only [go_sem, ↓ifP_true, ↓ifP_false, ↓ifP_not, Nat.reduceLT, Nat.reduceAdd, Nat.reduceBEq, Nat.reduceSub, Nat.reduceLeDiff, Nat.reduceEqDiff, Nat.reduceMul, Int.reduceToNat, Int.reduceEq, Int.reduceLT, Int.reduceLE, Int.reduceAdd, Int.reduceSub, Int.reduceMul, reduceCtorEq, cond_true, cond_false, forall_eq', forall_eq, forall_const, implies_true, if_true, if_false, exists_eq_left', exists_eq', exists_eq, ne_eq, planW, stepW, Go.VE.stepT, Go.VE.clearO, Tryd.f97, tb97_111, spPoly_q, spPoly_A, spPoly_pre, spPoly_post, spToInt_q, spToInt_A, spToInt_pre, spToInt_post, hlt, hk] | simp (config := { maxSteps := 1000000 }) only [go_sem, ↓ifP_true, ↓ifP_false, ↓ifP_not, Nat.reduceLT, Nat.reduceAdd, Nat.reduceBEq, Nat.reduceSub, Nat.reduceLeDiff, Nat.reduceEqDiff, Nat.reduceMul, Int.reduceToNat, Int.reduceEq, Int.reduceLT, Int.reduceLE, Int.reduceAdd, Int.reduceSub, Int.reduceMul, reduceCtorEq, cond_true, cond_false, forall_eq', forall_eq, forall_const, implies_true, if_true, if_false, exists_eq_left', exists_eq', exists_eq, ne_eq, planW, stepW, Go.VE.stepT, Go.VE.clearO, Tryd.f97, tb97_111, spPoly_q, spPoly_A, spPoly_pre, spPoly_post, spToInt_q, spToInt_A, spToInt_pre, spToInt_post]); repeat' (first | apply And.intro | (intro _) | omega | assumption | with_reducible rfl))
  all_goals (first | ((obtain ⟨h1, h2, rfl⟩ := hinv; simp only [List.length_take, List.length_mapIdx]; omega); done) | ((obtain ⟨h1, h2, rfl⟩ := hinv; rw [polyV_step hk h1]); done) | ((rw [← polyV_end hlt2 hinv.2.2]; simp); done) | ((rw [← polyV_end hlt2 hinv.2.2, List.map_append]; rfl); done) | (omega; done))
theorem sat_spec_poly : Sat Tryd.prog rt0 97 (wkIn spPoly) := sat_in (sat_out sat_spec_poly_0)
end Go.Proofs.YthphndhiacikaaaDoor
end
section
set_option maxRecDepth 100000
set_option linter.unusedSimpArgs false
set_option linter.unusedVariables false
namespace Go.Proofs.YthphndhiacikaaaDoor
open Go Go.VE
def spEmp_A : Bx → List AV
  | b => [.agg (bxC b)]
def spEmp_pre : Bx → Prop
  | b => True
def spEmp_post : Bx → AV → List Box → Prop
  | b, r, bs => r = B (decide (b.l = b.r ∨ b.t = b.b)) ∧ bs = []
def spEmp : VE.Spec := famSpec spEmp_A d_bx spEmp_pre spEmp_post 0 true
theorem spEmp_q : spEmp.flat = true ∧ spEmp.mt = [] ∧ spEmp.shut = false ∧ spEmp.cost = 0 ∧ (∀ a i, spEmp.pre a i = (i = [] ∧ famPre d_bx spEmp_A spEmp_pre a)) ∧ ∀ a i r b, spEmp.post a i r b = (famPost d_bx spEmp_post a r b) := ⟨rfl, rfl, rfl, rfl, fun _ _ => rfl, fun _ _ _ _ => rfl⟩
def tb96 : Nat → Option VE.Spec := tabOf []
theorem tb96_ok : TabOK Tryd.prog rt0 tb96 := tabOf_nil
set_option maxHeartbeats 4000000 in
theorem sat_spec_isEmpty_0 : Sat Tryd.prog rt0 96 (wkOut spEmp) := by
  refine fn_sat hm ttok (tab := tb96) tb96_ok Tryd.func96 (c := Tryd.f96.body.getD .skip) (by kernel_rfl) (ts := [.tmp 2]) (by kernel_rfl) Tryd.ntmps96 (sq := fun _ => true) (by kernel_rfl) ?_
  intro args ins pk hpre0 hpk
  obtain ⟨rfl, hpre0⟩ := hpre0
  obtain ⟨b, rfl, hpre, hdec⟩ := famPre_ex hpre0
  clear hpre0 hdec
  try simp only [spEmp_pre] at hpre
  replace hpk : pk + 0 ≤ pickLimit := hpk
  refine ⟨Nat.le_of_ble_eq_true rfl, ?_⟩
  simp (config := { maxSteps := 1000000 }) only [go_sem, ↓ifP_true, ↓ifP_false, ↓ifP_not, Nat.reduceLT, Nat.reduceAdd, Nat.reduceBEq, Nat.reduceSub, Nat.reduceLeDiff, Nat.reduceEqDiff, Nat.reduceMul, Int.reduceToNat, Int.reduceEq, Int.reduceLT, Int.reduceLE, Int.reduceAdd, Int.reduceSub, Int.reduceMul, reduceCtorEq, cond_true, cond_false, forall_eq', forall_eq, forall_const, implies_true, if_true, if_false, exists_eq_left', exists_eq', exists_eq, ne_eq, Tryd.f96, spEmp_q, spEmp_A, spEmp_pre, spEmp_post]
  repeat' (first | apply And.intro | (intro _) | omega | assumption | with_reducible rfl)
  all_goals (first | ((simp only [decide_eq_decide, true_eq_decide_iff, false_eq_decide_iff, Bool.not_eq_eq_eq_not, Bool.not_true, Bool.not_false]; omega); done) | (grind; done))
theorem sat_spec_isEmpty : Sat Tryd.prog rt0 96 (wkIn spEmp) := sat_in (sat_out sat_spec_isEmpty_0)
def vBx (b : Bx) : Bool := decide (((-1000 ≤ b.l ∧ b.l ≤ 1000) ∧ (-1000 ≤ b.t ∧ b.t ≤ 1000) ∧ (-1000 ≤ b.r ∧ b.r ≤ 1000) ∧ -1000 ≤ b.b ∧ b.b ≤ 1000) ∧ b.l ≤ b.r ∧ b.t ≤ b.b)
def spVBx_A : Bx → List AV
  | b => [.agg (bxC b)]
def spVBx_pre : Bx → Prop
  | b => True
def spVBx_post : Bx → AV → List Box → Prop
  | b, r, bs => r = B (vBx b) ∧ bs = []
def spVBx : VE.Spec := famSpec spVBx_A d_bx spVBx_pre spVBx_post 0 true
theorem spVBx_q : spVBx.flat = true ∧ spVBx.mt = [] ∧ spVBx.shut = false ∧ spVBx.cost = 0 ∧ (∀ a i, spVBx.pre a i = (i = [] ∧ famPre d_bx spVBx_A spVBx_pre a)) ∧ ∀ a i r b, spVBx.post a i r b = (famPost d_bx spVBx_post a r b) := ⟨rfl, rfl, rfl, rfl, fun _ _ => rfl, fun _ _ _ _ => rfl⟩
def tb95 : Nat → Option VE.Spec := tabOf [(88, wkIn spIn)]
theorem tb95_88 : tb95 88 = some (wkIn spIn) := rfl
theorem tb95_ok : TabOK Tryd.prog rt0 tb95 := (tabOf_cons (by kernel_rfl) sat_spec_inRange tabOf_nil)
set_option maxHeartbeats 4000000 in
theorem sat_spec_validBox_0 : Sat Tryd.prog rt0 95 (wkOut spVBx) := by
  refine fn_sat hm ttok (tab := tb95) tb95_ok Tryd.func95 (c := Tryd.f95.body.getD .skip) (by kernel_rfl) (ts := [.tmp 2]) (by kernel_rfl) Tryd.ntmps95 (sq := fun _ => true) (by kernel_rfl) ?_
  intro args ins pk hpre0 hpk
  obtain ⟨rfl, hpre0⟩ := hpre0
  obtain ⟨b, rfl, hpre, hdec⟩ := famPre_ex hpre0
  clear hpre0 hdec
  try simp only [spVBx_pre] at hpre
  replace hpk : pk + 0 ≤ pickLimit := hpk
  refine ⟨Nat.le_of_ble_eq_true rfl, ?_⟩
  simp (config := { maxSteps := 1000000 }) only [go_sem, ↓ifP_true, ↓ifP_false, ↓ifP_not, Nat.reduceLT, Nat.reduceAdd, Nat.reduceBEq, Nat.reduceSub, Nat.reduceLeDiff, Nat.reduceEqDiff, Nat.reduceMul, Int.reduceToNat, Int.reduceEq, Int.reduceLT, Int.reduceLE, Int.reduceAdd, Int.reduceSub, Int.reduceMul, reduceCtorEq, cond_true, cond_false, forall_eq', forall_eq, forall_const, implies_true, if_true, if_false, exists_eq_left', exists_eq', exists_eq, ne_eq, Tryd.f95, tb95_88, spVBx_q, spVBx_A, spVBx_pre, spVBx_post, spIn_q, spIn_A, spIn_pre, spIn_post, vBx]
  repeat' (first | apply And.intro | (intro _) | omega | assumption | with_reducible rfl)
  all_goals (first | ((simp only [decide_eq_decide, true_eq_decide_iff, false_eq_decide_iff, Bool.not_eq_eq_eq_not, Bool.not_true, Bool.not_false]; omega); done) | (grind; done))
theorem sat_spec_validBox : Sat Tryd.prog rt0 95 (wkIn spVBx) := sat_in (sat_out sat_spec_validBox_0)
def spTidy_A : Bx → List AV
  | b => [.agg (bxC b)]
def spTidy_pre : Bx → Prop
  | b => True
def spTidy_post : Bx → AV → List Box → Prop
  | b, r, bs => r = .agg (bxC (if b.l ≥ b.r ∨ b.t ≥ b.b then ⟨0, 0, 0, 0⟩ else b)) ∧ bs = []
def spTidy : VE.Spec := famSpec spTidy_A d_bx spTidy_pre spTidy_post 0 true
theorem spTidy_q : spTidy.flat = true ∧ spTidy.mt = [] ∧ spTidy.shut = false ∧ spTidy.cost = 0 ∧ (∀ a i, spTidy.pre a i = (i = [] ∧ famPre d_bx spTidy_A spTidy_pre a)) ∧ ∀ a i r b, spTidy.post a i r b = (famPost d_bx spTidy_post a r b) := ⟨rfl, rfl, rfl, rfl, fun _ _ => rfl, fun _ _ _ _ => rfl⟩
def tb73 : Nat → Option VE.Spec := tabOf []
theorem tb73_ok : TabOK Tryd.prog rt0 tb73 := tabOf_nil
set_option maxHeartbeats 4000000 in
theorem sat_spec_tidy_0 : Sat Tryd.prog rt0 73 (wkOut spTidy) := by
  refine fn_sat hm ttok (tab := tb73) tb73_ok Tryd.func73 (c := Tryd.f73.body.getD .skip) (by kernel_rfl) (ts := [.cell 2 97]) (by kernel_rfl) Tryd.ntmps73 (sq := fun _ => true) (by kernel_rfl) ?_
  intro args ins pk hpre0 hpk
  obtain ⟨rfl, hpre0⟩ := hpre0
  obtain ⟨b, rfl, hpre, hdec⟩ := famPre_ex hpre0
  clear hpre0 hdec
  try simp only [spTidy_pre] at hpre
  replace hpk : pk + 0 ≤ pickLimit := hpk
  refine ⟨Nat.le_of_ble_eq_true rfl, ?_⟩
  simp (config := { maxSteps := 1000000 }) only [go_sem, ↓ifP_true, ↓ifP_false, ↓ifP_not, Nat.reduceLT, Nat.reduceAdd, Nat.reduceBEq, Nat.reduceSub, Nat.reduceLeDiff, Nat.reduceEqDiff, Nat.reduceMul, Int.reduceToNat, Int.reduceEq, Int.reduceLT, Int.reduceLE, Int.reduceAdd, Int.reduceSub, Int.reduceMul, reduceCtorEq, cond_true, cond_false, forall_eq', forall_eq, forall_const, implies_true, if_true, if_false, exists_eq_left', exists_eq', exists_eq, ne_eq, Tryd.f73, spTidy_q, spTidy_A, spTidy_pre, spTidy_post]
  repeat' (first | apply And.intro | (intro _) | omega | assumption | with_reducible rfl)
  all_goals (first | ((rw [if_pos (by omega)]; rfl); done) | ((rw [if_neg (by omega)]); done) | (grind; done))
theorem sat_spec_tidy : Sat Tryd.prog rt0 73 (wkIn spTidy) := sat_in (sat_out sat_spec_tidy_0)
end Go.Proofs.YthphndhiacikaaaDoor
end
section
set_option maxRecDepth 100000
set_option linter.unusedSimpArgs false
set_option linter.unusedVariables false
namespace Go.Proofs.YthphndhiacikaaaDoor
open Go Go.VE
def bxPts (b : Bx) : List Pt := [⟨b.l, b.t⟩, ⟨b.r, b.t⟩, ⟨b.r, b.b⟩, ⟨b.l, b.b⟩]
def bxOk (b : Bx) : Bool := vBx b && !decide (b.l = b.r ∨ b.t = b.b)
def spBoxP_A : Bx → List AV
  | b => [.agg (bxC b)]
def spBoxP_pre : Bx → Prop
  | b => True
def spBoxP_post : Bx → AV → List Box → Prop
  | b, r, bs => r = .tup [.c (.sl false (((if bxOk b = true then polyV (bxPts b) else [])).map vbC)), B (bxOk b)] ∧ bs = []
def spBoxP : VE.Spec := famSpecS spBoxP_A d_bx spBoxP_pre spBoxP_post 0 false
theorem spBoxP_q : spBoxP.flat = false ∧ spBoxP.mt = [] ∧ spBoxP.shut = true ∧ spBoxP.cost = 0 ∧ (∀ a i, spBoxP.pre a i = (i = [] ∧ famPre d_bx spBoxP_A spBoxP_pre a)) ∧ ∀ a i r b, spBoxP.post a i r b = (famPost d_bx spBoxP_post a r b) := ⟨rfl, rfl, rfl, rfl, fun _ _ => rfl, fun _ _ _ _ => rfl⟩
def tb72 : Nat → Option VE.Spec := tabOf [(95, wkIn spVBx), (96, wkIn spEmp), (97, wkIn spPoly)]
theorem tb72_95 : tb72 95 = some (wkIn spVBx) := rfl
theorem tb72_96 : tb72 96 = some (wkIn spEmp) := rfl
theorem tb72_97 : tb72 97 = some (wkIn spPoly) := rfl
theorem tb72_ok : TabOK Tryd.prog rt0 tb72 := (tabOf_cons (by kernel_rfl) sat_spec_validBox (tabOf_cons (by kernel_rfl) sat_spec_isEmpty (tabOf_cons (by kernel_rfl) sat_spec_poly tabOf_nil)))
set_option maxHeartbeats 4000000 in
theorem sat_spec_BoxPath_0 : Sat Tryd.prog rt0 72 (wkOut spBoxP) := by
  refine fn_sat hm ttok (tab := tb72) tb72_ok Tryd.func72 (c := Tryd.f72.body.getD .skip) (by kernel_rfl) (ts := [.tmp 2, .tmp 3]) (by kernel_rfl) Tryd.ntmps72 (sq := fun _ => true) (by kernel_rfl) ?_
  intro args ins pk hpre0 hpk
  obtain ⟨rfl, hpre0⟩ := hpre0
  obtain ⟨b, rfl, hpre, hdec⟩ := famPre_ex hpre0
  clear hpre0 hdec
  try simp only [spBoxP_pre] at hpre
  replace hpk : pk + 0 ≤ pickLimit := hpk
  refine ⟨Nat.le_of_ble_eq_true rfl, ?_⟩
  simp (config := { maxSteps := 1000000 }) only [go_sem, ↓ifP_true, ↓ifP_false, ↓ifP_not, Nat.reduceLT, Nat.reduceAdd, Nat.reduceBEq, Nat.reduceSub, Nat.reduceLeDiff, Nat.reduceEqDiff, Nat.reduceMul, Int.reduceToNat, Int.reduceEq, Int.reduceLT, Int.reduceLE, Int.reduceAdd, Int.reduceSub, Int.reduceMul, reduceCtorEq, cond_true, cond_false, forall_eq', forall_eq, forall_const, implies_true, if_true, if_false, exists_eq_left', exists_eq', exists_eq, ne_eq, Tryd.f72, tb72_95, tb72_96, tb72_97, spBoxP_q, spBoxP_A, spBoxP_pre, spBoxP_post, spVBx_q, spVBx_A, spVBx_pre, spVBx_post, spEmp_q, spEmp_A, spEmp_pre, spEmp_post, spPoly_q, spPoly_A, spPoly_pre, spPoly_post]
  repeat' (first | apply And.intro | (intro _) | omega | assumption | with_reducible rfl)
  all_goals (first | (simp [bxOk, bxPts, *]; done))
theorem sat_spec_BoxPath : Sat Tryd.prog rt0 72 (wkIn spBoxP) := sat_in (sat_out sat_spec_BoxPath_0)
end Go.Proofs.YthphndhiacikaaaDoor
end
section
set_option maxRecDepth 100000
set_option linter.unusedSimpArgs false
set_option linter.unusedVariables false
namespace Go.Proofs.YthphndhiacikaaaDoor
open Go Go.VE
def Picks (n m : Int) : Prop := (n < 1 → m = 0) ∧ (1 ≤ n → 0 ≤ m ∧ m < n)
structure PB where
  n : Int
  bv : Value
  bs : List (List C)
  p : Int
def pbIns (x : PB) : List Box := [⟨[[.ex x.bv (.sl false x.bs), .v (.int .i64 x.p)]], 2, 83, false, false⟩]
def dPB : List AV → List Box → Option PB
  | [.c (.ptr 0 1 0 0), .c (.v (.int .i64 n))], [⟨[[.ex bv (.sl false bs), .v (.int .i64 p)]], _, _, _, _⟩] => some ⟨n, bv, bs, p⟩
  | _, _ => none
def spPickB_A : PB → List AV := fun x => [.c (.ptr 0 1 0 0), I x.n]
def spPickB_pre : PB → Prop := fun x => (∃ bs : List UInt8, x.bs = byC bs ∧ bs.length ≤ 2000) ∧ 0 ≤ x.p ∧ x.p + 1 ≤ 1073741824
def spPickB_post : PB → AV → List Box → Prop := fun x r bs => ∃ m, Picks x.n m ∧ r = I m ∧ bs = pbIns { x with p := x.p + 1 }
def spPickB : VE.Spec := famSpecM spPickB_A pbIns dPB spPickB_pre spPickB_post 0 false [true] false
theorem spPickB_q : spPickB.flat = false ∧ spPickB.mt = [true] ∧ spPickB.shut = false ∧ spPickB.cost = 0 ∧ (∀ a i, spPickB.pre a i = (famPreM dPB spPickB_A pbIns spPickB_pre a i)) ∧ ∀ a i r b, spPickB.post a i r b = (famPostM dPB spPickB_post a i r b) := ⟨rfl, rfl, rfl, rfl, fun _ _ => rfl, fun _ _ _ _ => rfl⟩
def tb50N : Nat → Option VE.Spec := tabOf []
set_option maxHeartbeats 4000000 in
theorem sat_pickB : Sat Tryd.prog rt0 50 spPickB := by
  refine fn_sat hm ttok (tab := tb50N) tabOf_nil Tryd.func50 (c := Tryd.f50.body.getD .skip) (by kernel_rfl) (ts := [.tmp 4]) (by kernel_rfl) Tryd.ntmps50 (sq := fun _ => true) (by kernel_rfl) ?_
  intro args ins pk hpre0 hpk
  obtain ⟨⟨n, bv, es, p⟩, rfl, rfl, hpre, hdec⟩ := famPreM_ex hpre0
  clear hpre0 hdec
  replace hpk : pk + 0 ≤ pickLimit := hpk
  obtain ⟨⟨bs, rfl, hbs⟩, hp0, hp1⟩ := hpre
  refine ⟨Nat.le_of_ble_eq_true rfl, ?_⟩
  dsimp only at hp0 hp1
  simp (config := { maxSteps := 1000000 }) only [go_sem, ↓ifP_true, ↓ifP_false, ↓ifP_not, Nat.reduceLT, Nat.reduceAdd, Nat.reduceBEq, Nat.reduceSub, Nat.reduceLeDiff, Nat.reduceEqDiff, Nat.reduceMul, Int.reduceToNat, Int.reduceEq, Int.reduceLT, Int.reduceLE, Int.reduceAdd, Int.reduceSub, Int.reduceMul, reduceCtorEq, cond_true, cond_false, forall_eq', forall_eq, forall_const, implies_true, if_true, if_false, exists_eq_left', exists_eq', exists_eq, ne_eq, Tryd.f50, spPickB_q, spPickB_A, pbIns, spPickB_pre, spPickB_post, dPB]
  have hx : ∀ m : Int, 0 ≤ m → ¬ n < 1 → ∃ m', Picks n m' ∧ m.tmod n = m' := fun m hm h => ⟨_, ⟨fun h' => absurd h' h, fun h' => ⟨Int.tmod_nonneg _ hm, Int.tmod_lt_of_pos _ (by omega)⟩⟩, rfl⟩
  have hz : n < 1 → ∃ m', Picks n m' ∧ 0 = m' := fun h => ⟨0, ⟨fun _ => rfl, fun h' => by omega⟩, rfl⟩
  have hz2 : ¬ n < 1 → ∃ m', Picks n m' ∧ 0 = m' := fun h => ⟨0, ⟨fun h' => absurd h' h, fun h' => by omega⟩, rfl⟩
  have u8 : ∀ k : UInt8, (k.toNat : Int) ≤ 255 := fun k => by have := k.toNat_lt; omega
  simp only [Int.add_sub_cancel]
  refine ⟨by omega, by omega, hz, fun h => ⟨fun _ => hz2 h, fun h0 => ⟨by omega, by omega, fun h1 => ⟨by omega, h1, fun k hk => ⟨by omega, by have := u8 k; omega, by omega, hx _ (by omega) h⟩⟩, fun h1 => ?_⟩⟩⟩
  have hL : (0 : Int) < bs.length := by omega
  have m1 := Int.tmod_nonneg (bs.length : Int) hp0
  have m2 := Int.tmod_lt_of_pos p hL
  have m3 := Int.tmod_nonneg (bs.length : Int) (show 0 ≤ p * 7 + 3 by omega)
  have m4 := Int.tmod_lt_of_pos (p * 7 + 3) hL
  have d1 : 0 ≤ p.tdiv bs.length := Int.tdiv_nonneg hp0 (by omega)
  have d2 : p.tdiv bs.length ≤ p := by rw [Int.tdiv_eq_ediv_of_nonneg hp0]; exact Int.ediv_le_self _ hp0
  generalize p.tdiv bs.length = q at *
  refine ⟨h0, m1, m2, fun k hk => ?_⟩
  have u1 := u8 k
  refine ⟨by omega, by omega, by omega, by omega, by omega, by omega, by omega, by omega, h0, m3, m4, fun k' hk' => ?_⟩
  have u2 := u8 k'
  generalize hX : (k.toNat : Int) * 131 + k'.toNat * 1117 + p * 29 + q * 53 = x
  have x0 : 0 ≤ x := by omega
  have x1 : x ≤ 1000000000000 := by omega
  have t1 : x.tdiv 64 = x / 64 := Int.tdiv_eq_ediv_of_nonneg x0
  rw [t1]
  repeat' (first | apply And.intro | omega | exact hx _ (by omega) h | exact h0)
def spPick_A : Int → List AV
  | n => [.c .rdr, I n]
def spPick_pre : Int → Prop
  | n => True
def spPick_post : Int → AV → List Box → Prop
  | n, r, bs => ∃ m, r = I m ∧ bs = [] ∧ Picks n m
def spPick : VE.Spec := famSpec spPick_A d_r_i spPick_pre spPick_post 1 false
theorem spPick_q : spPick.flat = false ∧ spPick.mt = [] ∧ spPick.shut = false ∧ spPick.cost = 1 ∧ (∀ a i, spPick.pre a i = (i = [] ∧ famPre d_r_i spPick_A spPick_pre a)) ∧ ∀ a i r b, spPick.post a i r b = (famPost d_r_i spPick_post a r b) := ⟨rfl, rfl, rfl, rfl, fun _ _ => rfl, fun _ _ _ _ => rfl⟩
theorem sat_spec_reader_pick_0 : Sat Tryd.prog rt0 50 spPick := by
  refine rdr_sat sat_pickB rfl rfl (fun args ins h => ?_) (fun rest bv bs p r out hp h => ?_)
  · obtain ⟨rfl, h⟩ := h
    obtain ⟨n, rfl, _, _⟩ := famPre_ex h
    refine ⟨rfl, [I n], rfl, by simp, fun bv bs p hb hp => ?_⟩
    have hp' : p + 1 ≤ 1073741824 := hp
    exact ⟨rfl, rfl, ⟨bs, rfl, hb⟩, Int.natCast_nonneg p, by show (p : Int) + 1 ≤ 1073741824; omega⟩
  · obtain ⟨-, hp⟩ := hp
    obtain ⟨n, e, _, _⟩ := famPre_ex hp
    cases e
    obtain ⟨m, h1, rfl, rfl⟩ := h
    exact ⟨p + 1, rfl, Nat.le_refl _, ⟨_, _, rfl⟩, m, rfl, rfl, h1⟩
theorem sat_spec_reader_pick : Sat Tryd.prog rt0 50 (wkIn spPick) := sat_in sat_spec_reader_pick_0
/-- newReader: any code. -/
def spNew : VE.Spec := ⟨fun args ins => ins = [] ∧ ∃ t bs, args = [.c (.sl t (byC bs))] ∧ bs.length ≤ 1048576, fun _ _ r bs => r = .c .rdr ∧ bs = [], 0, false, [], false⟩
theorem spNew_q : spNew.flat = false ∧ spNew.mt = [] ∧ spNew.shut = false ∧ spNew.cost = 0 ∧ (∀ a i, spNew.pre a i = (i = [] ∧ ∃ t bs, a = [.c (.sl t (byC bs))] ∧ bs.length ≤ 1048576)) ∧ ∀ a i r b, spNew.post a i r b = (r = .c .rdr ∧ b = []) := ⟨rfl, rfl, rfl, rfl, fun _ _ => rfl, fun _ _ _ _ => rfl⟩
theorem spNew_e : type_of% spNew_q := spNew_q
set_option maxHeartbeats 4000000 in
theorem sat_spec_newReader_0 : Sat Tryd.prog rt0 26 spNew := by
  intro w Av Rd pk args vs ins β0 cp0 T hpre hpk
  obtain ⟨rfl, t, bs, rfl, hlen⟩ := hpre
  refine calls_of_wp Tryd.func26 (c := Tryd.f26.body.getD .skip) (by kernel_rfl) ?_
  have hG := good_entry (nt := Tryd.f26.ntmps) T (by rw [Tryd.ntmps26]; simp)
  refine runW_sound (X := ⟨rt0, w, Av, Rd, entPins [] β0 cp0, [], w, fun _ => False⟩) (tab := tabOf []) ttok tabOf_nil _ (dwS_ok hm ttok tabOf_nil (sq := fun _ => true) (by kernel_rfl)) _ _ _
    (fun e s => match e with
      | .exit _ => False
      | _ => ∃ b cs tf, s.get 2 = .c (.ptr b 1 0 0) ∧ s.box b = some ⟨[[.sl tf (byC cs), .v (.int .i64 0)]], 2, rt0.t, false, false⟩ ∧ cs.length ≤ 2000 ∧ s.pk ≤ pk) _ ⟨_, _, _, hG⟩ ?_ ?_
  · rw [Tryd.ntmps26]
    simp (config := { maxSteps := 1000000 }) only [go_sem, ↓ifP_true, ↓ifP_false, ↓ifP_not, Nat.reduceLT, Nat.reduceAdd, Nat.reduceBEq, Nat.reduceSub, Nat.reduceLeDiff, Nat.reduceEqDiff, Nat.reduceMul, Int.reduceToNat, Int.reduceEq, Int.reduceLT, Int.reduceLE, Int.reduceAdd, Int.reduceSub, Int.reduceMul, reduceCtorEq, cond_true, cond_false, forall_eq', forall_eq, forall_const, implies_true, if_true, if_false, exists_eq_left', exists_eq', exists_eq, ne_eq, Tryd.f26]
    refine ⟨fun h => ⟨by omega, by omega, by omega, _, bs.take 2000, false, rfl, ?_, by simp; omega⟩, fun h => ⟨_, bs, t, rfl, rfl, by omega⟩⟩
    simp [byC, List.map_take, rt0_t]
  · refine ⟨fun s a w' h1 h2 => ?_, fun i s a w' h1 h2 => h1.elim, fun s a w' h1 h2 => ?_⟩
    all_goals
      obtain ⟨b, cs, tf, g1, g2, g3, g4⟩ := h1
      exact reader_exit (sp := spNew) (by kernel_rfl) rfl h2 g1 g2 g3 (by simpa [spNew] using g4) ⟨rfl, rfl⟩
theorem spNew_pre' {a : List AV} {i : List Box} : (wkIn spNew).pre a i = (i = [] ∧ ∃ t bs, a.map wkA = [.c (.sl t (byC bs))] ∧ bs.length ≤ 1048576) := rfl
theorem sat_spec_newReader : Sat Tryd.prog rt0 26 (wkIn spNew) := sat_in sat_spec_newReader_0
end Go.Proofs.YthphndhiacikaaaDoor
end
section
set_option maxRecDepth 100000
set_option linter.unusedSimpArgs false
set_option linter.unusedVariables false
namespace Go.Proofs.YthphndhiacikaaaDoor
open Go Go.VE
def spOne_A : (List Int) → List AV
  | l => [.c .rdr, .c (.sl false (l.map intC))]
def spOne_pre : (List Int) → Prop
  | l => 0 < l.length ∧ l.length ≤ 1000000
def spOne_post : (List Int) → AV → List Box → Prop
  | l, r, bs => ∃ m, r = I m ∧ bs = [] ∧ m ∈ l
def spOne : VE.Spec := famSpec spOne_A d_r_li spOne_pre spOne_post 1 false
theorem spOne_q : spOne.flat = false ∧ spOne.mt = [] ∧ spOne.shut = false ∧ spOne.cost = 1 ∧ (∀ a i, spOne.pre a i = (i = [] ∧ famPre d_r_li spOne_A spOne_pre a)) ∧ ∀ a i r b, spOne.post a i r b = (famPost d_r_li spOne_post a r b) := ⟨rfl, rfl, rfl, rfl, fun _ _ => rfl, fun _ _ _ _ => rfl⟩
def tb51 : Nat → Option VE.Spec := tabOf [(50, wkIn spPick)]
theorem tb51_50 : tb51 50 = some (wkIn spPick) := rfl
theorem tb51_ok : TabOK Tryd.prog rt0 tb51 := (tabOf_cons (by kernel_rfl) sat_spec_reader_pick tabOf_nil)
set_option maxHeartbeats 4000000 in
theorem sat_spec_reader_one_0 : Sat Tryd.prog rt0 51 (wkOut spOne) := by
  refine fn_sat hm ttok (tab := tb51) tb51_ok Tryd.func51 (c := Tryd.f51.body.getD .skip) (by kernel_rfl) (ts := [.tmp 4]) (by kernel_rfl) Tryd.ntmps51 (sq := fun _ => true) (by kernel_rfl) ?_
  intro args ins pk hpre0 hpk
  obtain ⟨rfl, hpre0⟩ := hpre0
  obtain ⟨l, rfl, hpre, hdec⟩ := famPre_ex hpre0
  clear hpre0 hdec
  try simp only [spOne_pre] at hpre
  replace hpk : pk + 1 ≤ pickLimit := hpk
  refine ⟨Nat.le_of_ble_eq_true rfl, ?_⟩
  simp (config := { maxSteps := 1000000 }) only [go_sem, ↓ifP_true, ↓ifP_false, ↓ifP_not, Nat.reduceLT, Nat.reduceAdd, Nat.reduceBEq, Nat.reduceSub, Nat.reduceLeDiff, Nat.reduceEqDiff, Nat.reduceMul, Int.reduceToNat, Int.reduceEq, Int.reduceLT, Int.reduceLE, Int.reduceAdd, Int.reduceSub, Int.reduceMul, reduceCtorEq, cond_true, cond_false, forall_eq', forall_eq, forall_const, implies_true, if_true, if_false, exists_eq_left', exists_eq', exists_eq, ne_eq, Tryd.f51, tb51_50, spOne_q, spOne_A, spOne_pre, spOne_post, spPick_q, spPick_A, spPick_pre, spPick_post, Picks]
  repeat' (first | apply And.intro | (intro _) | omega | assumption | with_reducible rfl)
  all_goals (first | ((exact ⟨_, rfl, List.mem_of_getElem? ‹_›⟩); done) | (grind; done))
theorem sat_spec_reader_one : Sat Tryd.prog rt0 51 (wkIn spOne) := sat_in (sat_out sat_spec_reader_one_0)
end Go.Proofs.YthphndhiacikaaaDoor
end
section
set_option maxRecDepth 100000
set_option linter.unusedSimpArgs false
set_option linter.unusedVariables false
namespace Go.Proofs.YthphndhiacikaaaDoor
open Go Go.VE
def spSome_A : Unit → List AV
  | () => [.c .rdr]
def spSome_pre : Unit → Prop
  | () => True
def spSome_post : Unit → AV → List Box → Prop
  | (), r, bs => ∃ p : Pt, r = .agg (ptC p) ∧ bs = [] ∧ (-16 ≤ p.x ∧ p.x ≤ 207) ∧ -16 ≤ p.y ∧ p.y ≤ 207
def spSome : VE.Spec := famSpec spSome_A d_r spSome_pre spSome_post 2 false
theorem spSome_q : spSome.flat = false ∧ spSome.mt = [] ∧ spSome.shut = false ∧ spSome.cost = 2 ∧ (∀ a i, spSome.pre a i = (i = [] ∧ famPre d_r spSome_A spSome_pre a)) ∧ ∀ a i r b, spSome.post a i r b = (famPost d_r spSome_post a r b) := ⟨rfl, rfl, rfl, rfl, fun _ _ => rfl, fun _ _ _ _ => rfl⟩
def tb52 : Nat → Option VE.Spec := tabOf [(50, wkIn spPick)]
theorem tb52_50 : tb52 50 = some (wkIn spPick) := rfl
theorem tb52_ok : TabOK Tryd.prog rt0 tb52 := (tabOf_cons (by kernel_rfl) sat_spec_reader_pick tabOf_nil)
set_option maxHeartbeats 4000000 in
theorem sat_spec_somePoint_0 : Sat Tryd.prog rt0 52 (wkOut spSome) := by
  refine fn_sat hm ttok (tab := tb52) tb52_ok Tryd.func52 (c := Tryd.f52.body.getD .skip) (by kernel_rfl) (ts := [.cell 2 47]) (by kernel_rfl) Tryd.ntmps52 (sq := fun _ => true) (by kernel_rfl) ?_
  intro args ins pk hpre0 hpk
  obtain ⟨rfl, hpre0⟩ := hpre0
  obtain ⟨⟨⟩, rfl, hpre, hdec⟩ := famPre_ex hpre0
  clear hpre0 hdec
  try simp only [spSome_pre] at hpre
  replace hpk : pk + 2 ≤ pickLimit := hpk
  refine ⟨Nat.le_of_ble_eq_true rfl, ?_⟩
  simp (config := { maxSteps := 1000000 }) only [go_sem, ↓ifP_true, ↓ifP_false, ↓ifP_not, Nat.reduceLT, Nat.reduceAdd, Nat.reduceBEq, Nat.reduceSub, Nat.reduceLeDiff, Nat.reduceEqDiff, Nat.reduceMul, Int.reduceToNat, Int.reduceEq, Int.reduceLT, Int.reduceLE, Int.reduceAdd, Int.reduceSub, Int.reduceMul, reduceCtorEq, cond_true, cond_false, forall_eq', forall_eq, forall_const, implies_true, if_true, if_false, exists_eq_left', exists_eq', exists_eq, ne_eq, Tryd.f52, tb52_50, spSome_q, spSome_A, spSome_pre, spSome_post, spPick_q, spPick_A, spPick_pre, spPick_post, Picks]
  repeat' (first | apply And.intro | (intro _) | omega | assumption | with_reducible rfl)
  all_goals (first | (grind; done))
theorem sat_spec_somePoint : Sat Tryd.prog rt0 52 (wkIn spSome) := sat_in (sat_out sat_spec_somePoint_0)
def spAnyP_A : Unit → List AV
  | () => [.c .rdr]
def spAnyP_pre : Unit → Prop
  | () => True
def spAnyP_post : Unit → AV → List Box → Prop
  | (), r, bs => ∃ p : Pt, r = .agg (ptC p) ∧ bs = [] ∧ (-1001 ≤ p.x ∧ p.x ≤ 1001) ∧ -1001 ≤ p.y ∧ p.y ≤ 1001
def spAnyP : VE.Spec := famSpec spAnyP_A d_r spAnyP_pre spAnyP_post 4 false
theorem spAnyP_q : spAnyP.flat = false ∧ spAnyP.mt = [] ∧ spAnyP.shut = false ∧ spAnyP.cost = 4 ∧ (∀ a i, spAnyP.pre a i = (i = [] ∧ famPre d_r spAnyP_A spAnyP_pre a)) ∧ ∀ a i r b, spAnyP.post a i r b = (famPost d_r spAnyP_post a r b) := ⟨rfl, rfl, rfl, rfl, fun _ _ => rfl, fun _ _ _ _ => rfl⟩
def tb53 : Nat → Option VE.Spec := tabOf [(50, wkIn spPick), (51, wkIn spOne), (52, wkIn spSome)]
theorem tb53_50 : tb53 50 = some (wkIn spPick) := rfl
theorem tb53_51 : tb53 51 = some (wkIn spOne) := rfl
theorem tb53_52 : tb53 52 = some (wkIn spSome) := rfl
theorem tb53_ok : TabOK Tryd.prog rt0 tb53 := (tabOf_cons (by kernel_rfl) sat_spec_reader_pick (tabOf_cons (by kernel_rfl) sat_spec_reader_one (tabOf_cons (by kernel_rfl) sat_spec_somePoint tabOf_nil)))
set_option maxHeartbeats 4000000 in
theorem sat_spec_anyPoint_0 : Sat Tryd.prog rt0 53 (wkOut spAnyP) := by
  refine fn_sat hm ttok (tab := tb53) tb53_ok Tryd.func53 (c := Tryd.f53.body.getD .skip) (by kernel_rfl) (ts := [.cell 2 47]) (by kernel_rfl) Tryd.ntmps53 (sq := fun _ => true) (by kernel_rfl) ?_
  intro args ins pk hpre0 hpk
  obtain ⟨rfl, hpre0⟩ := hpre0
  obtain ⟨⟨⟩, rfl, hpre, hdec⟩ := famPre_ex hpre0
  clear hpre0 hdec
  try simp only [spAnyP_pre] at hpre
  replace hpk : pk + 4 ≤ pickLimit := hpk
  refine ⟨Nat.le_of_ble_eq_true rfl, ?_⟩
  simp (config := { maxSteps := 1000000 }) only [go_sem, ↓ifP_true, ↓ifP_false, ↓ifP_not, Nat.reduceLT, Nat.reduceAdd, Nat.reduceBEq, Nat.reduceSub, Nat.reduceLeDiff, Nat.reduceEqDiff, Nat.reduceMul, Int.reduceToNat, Int.reduceEq, Int.reduceLT, Int.reduceLE, Int.reduceAdd, Int.reduceSub, Int.reduceMul, reduceCtorEq, cond_true, cond_false, forall_eq', forall_eq, forall_const, implies_true, if_true, if_false, exists_eq_left', exists_eq', exists_eq, ne_eq, Tryd.f53, tb53_50, tb53_51, tb53_52, spAnyP_q, spAnyP_A, spAnyP_pre, spAnyP_post, spPick_q, spPick_A, spPick_pre, spPick_post, spOne_q, spOne_A, spOne_pre, spOne_post, spSome_q, spSome_A, spSome_pre, spSome_post, Picks]
  repeat' (first | apply And.intro | (intro _) | omega | assumption | with_reducible rfl)
  all_goals (first | ((simp only [List.mem_cons, List.not_mem_nil, or_false] at *; omega); done) | (grind; done))
theorem sat_spec_anyPoint : Sat Tryd.prog rt0 53 (wkIn spAnyP) := sat_in (sat_out sat_spec_anyPoint_0)
end Go.Proofs.YthphndhiacikaaaDoor
end
section
set_option maxRecDepth 100000
set_option linter.unusedSimpArgs false
set_option linter.unusedVariables false
namespace Go.Proofs.YthphndhiacikaaaDoor
open Go Go.VE
theorem bnd_go (p : Pt) (l : List Pt) (i : Int) (k : Pt) (h : (p :: l)[i.toNat]? = some k) (h1 : 1 ≤ i) : bnd1 (((p :: l).take i.toNat).foldl bnd1 ⟨p.x, p.y, p.x, p.y⟩) k = ((p :: l).take (i + 1).toNat).foldl bnd1 ⟨p.x, p.y, p.x, p.y⟩ := by
  rw [takeN h (by omega), List.foldl_append]; rfl
theorem bnd_of {l : List Pt} {k : Pt} (h : l[0]? = some k) : bnd l = l.foldl bnd1 ⟨k.x, k.y, k.x, k.y⟩ := by
  cases l with
  | nil => cases h
  | cons p t => cases h; rfl
theorem bnd_1 {l : List Pt} {k : Pt} (h : l[0]? = some k) : (⟨k.x, k.y, k.x, k.y⟩ : Bx) = (l.take (1 : Int).toNat).foldl bnd1 ⟨k.x, k.y, k.x, k.y⟩ := by
  cases l with
  | nil => cases h
  | cons p t => cases h; exact (bnd_self _ _ (Int.le_refl _) (Int.le_refl _) (Int.le_refl _) (Int.le_refl _)).symm
theorem bnd_hd (p : Pt) : bnd1 ⟨p.x, p.y, p.x, p.y⟩ p = ⟨p.x, p.y, p.x, p.y⟩ := bnd_self _ _ (Int.le_refl _) (Int.le_refl _) (Int.le_refl _) (Int.le_refl _)
def spBnd_A : (List Pt) → List AV
  | l => [.c (.sl false (l.map ptC))]
def spBnd_pre : (List Pt) → Prop
  | l => 1 ≤ l.length ∧ l.length ≤ 1000000000
def spBnd_post : (List Pt) → AV → List Box → Prop
  | l, r, bs => r = .agg (bxC (bnd l)) ∧ bs = []
def spBnd : VE.Spec := famSpec spBnd_A d_lpt spBnd_pre spBnd_post 0 true
theorem spBnd_q : spBnd.flat = true ∧ spBnd.mt = [] ∧ spBnd.shut = false ∧ spBnd.cost = 0 ∧ (∀ a i, spBnd.pre a i = (i = [] ∧ famPre d_lpt spBnd_A spBnd_pre a)) ∧ ∀ a i r b, spBnd.post a i r b = (famPost d_lpt spBnd_post a r b) := ⟨rfl, rfl, rfl, rfl, fun _ _ => rfl, fun _ _ _ _ => rfl⟩
end Go.Proofs.YthphndhiacikaaaDoor
end
section
set_option maxRecDepth 100000
set_option linter.unusedSimpArgs false
set_option linter.unusedVariables false
namespace Go.Proofs.YthphndhiacikaaaDoor
open Go Go.VE
def tb74 : Nat → Option VE.Spec := tabOf []
theorem tb74_ok : TabOK Tryd.prog rt0 tb74 := tabOf_nil
set_option maxHeartbeats 4000000 in
theorem sat_spec_bounds_0 : Sat Tryd.prog rt0 74 (wkOut spBnd) := by
  refine fn_sat hm ttok (tab := tb74) tb74_ok Tryd.func74 (c := Tryd.f74.body.getD .skip) (by kernel_rfl) (ts := [.cell 2 97]) (by kernel_rfl) Tryd.ntmps74 (sq := fun _ => true) (by kernel_rfl) ?_
  intro args ins pk hpre0 hpk
  obtain ⟨rfl, hpre0⟩ := hpre0
  obtain ⟨l, rfl, hpre, hdec⟩ := famPre_ex hpre0
  clear hpre0 hdec
  try simp only [spBnd_pre] at hpre
  replace hpk : pk + 0 ≤ pickLimit := hpk
  refine ⟨Nat.le_of_ble_eq_true rfl, ?_⟩
  simp (config := { maxSteps := 1000000 }) only [go_sem, ↓ifP_true, ↓ifP_false, ↓ifP_not, Nat.reduceLT, Nat.reduceAdd, Nat.reduceBEq, Nat.reduceSub, Nat.reduceLeDiff, Nat.reduceEqDiff, Nat.reduceMul, Int.reduceToNat, Int.reduceEq, Int.reduceLT, Int.reduceLE, Int.reduceAdd, Int.reduceSub, Int.reduceMul, reduceCtorEq, cond_true, cond_false, forall_eq', forall_eq, forall_const, implies_true, if_true, if_false, exists_eq_left', exists_eq', exists_eq, ne_eq, Tryd.f74, spBnd_q, spBnd_A, spBnd_pre, spBnd_post]
  repeat' (first | apply And.intro | (intro _) | omega | assumption | with_reducible rfl)
  all_goals
    rename_i k1 e1 k2 e2 k3 e3 k4 e4
    rw [e1] at e2 e3 e4; obtain rfl : k2 = k1 := (Option.some.inj e2).symm; obtain rfl : k3 = k2 := (Option.some.inj e3).symm; obtain rfl : k4 = k3 := (Option.some.inj e4).symm
    have hl := bnd_of e1
  all_goals
    refine loopS (α := Bx × Int) false [1, 4, 5, 6, 7, 8, 9, 10, 11, 12, 13, 14, 15, 16, 17, 18, 19, 20, 21, 22, 23, 24, 25, 26, 27, 28, 29, 30, 31, 32, 33, 34, 35, 36, 37, 38, 39, 40, 41, 42, 43, 44, 45, 46, 47, 48, 49, 50, 51, 52, 53, 54, 55, 56, 57, 58, 59, 60] (fun σ => [gId (σ.get 3)]) (fun σ x => [(4, I x.2)]) (fun σ x => [(gId (σ.get 3), some ⟨[bxC x.1], 4, 97, false, false⟩)]) (fun (b, i) => 0) (fun σ => (gA bxCd default (.agg ((boxN σ (gId (σ.get 3))).es.headD [])), gI (σ.get 4))) (fun σ τ => []) (fun (b, i) => 1 ≤ i ∧ i ≤ l.length ∧ b = (l.take i.toNat).foldl bnd1 ⟨k4.x, k4.y, k4.x, k4.y⟩) (fun (b, i) => (l.length - i).toNat) ⟨by (simp (config := { maxSteps := 1000000 }) only [go_sem, ↓ifP_true, ↓ifP_false, ↓ifP_not, Nat.reduceLT, Nat.reduceAdd, Nat.reduceBEq, Nat.reduceSub, Nat.reduceLeDiff, Nat.reduceEqDiff, Nat.reduceMul, Int.reduceToNat, Int.reduceEq, Int.reduceLT, Int.reduceLE, Int.reduceAdd, Int.reduceSub, Int.reduceMul, reduceCtorEq, cond_true, cond_false, forall_eq', forall_eq, forall_const, implies_true, if_true, if_false, exists_eq_left', exists_eq', exists_eq, ne_eq, Tryd.f74, spBnd_q, spBnd_A, spBnd_pre, spBnd_post]; (repeat' (first | apply And.intro | (intro _) | omega | assumption | with_reducible rfl)); all_goals (first | exact bnd_1 e1)), ?_⟩
    rintro ⟨b, i⟩ hinv
    try dsimp only at hinv
    simp (config := { maxSteps := 1000000 }) only [go_sem, ↓ifP_true, ↓ifP_false, ↓ifP_not, Nat.reduceLT, Nat.reduceAdd, Nat.reduceBEq, Nat.reduceSub, Nat.reduceLeDiff, Nat.reduceEqDiff, Nat.reduceMul, Int.reduceToNat, Int.reduceEq, Int.reduceLT, Int.reduceLE, Int.reduceAdd, Int.reduceSub, Int.reduceMul, reduceCtorEq, cond_true, cond_false, forall_eq', forall_eq, forall_const, implies_true, if_true, if_false, exists_eq_left', exists_eq', exists_eq, ne_eq, Tryd.f74, spBnd_q, spBnd_A, spBnd_pre, spBnd_post]
    repeat' (first | apply And.intro | (intro _) | omega | assumption | with_reducible rfl)
  
  all_goals (first | ((obtain ⟨h0, h1, rfl⟩ := hinv; rename_i k1 a1 k2 a2 k3 a3 k4 a4; rw [a1] at a2 a3 a4; cases a2; cases a3; cases a4; rw [takeN a1 (by omega), List.foldl_append]; rfl); done) | ((obtain ⟨h0, h1, rfl⟩ := hinv; rw [hl, takeA (by omega)]); done))
theorem sat_spec_bounds : Sat Tryd.prog rt0 74 (wkIn spBnd) := sat_in (sat_out sat_spec_bounds_0)
end Go.Proofs.YthphndhiacikaaaDoor
end
section
set_option maxRecDepth 100000
set_option linter.unusedSimpArgs false
set_option linter.unusedVariables false
namespace Go.Proofs.YthphndhiacikaaaDoor
open Go Go.VE
def lastK (o : List Verb) : Int := (o.getLast?.map (·.k)).getD 4
theorem vv_snoc (v : Verb) : ∀ (o : List Verb) (b : Bool), vVerbs b (o ++ [v]) = (vVerbs b o && vVerb (match o.getLast? with
  | none => b
  | some w => decide (w.k = 4)) v)
  | [], b => by simp [vVerbs]
  | [a], b => by simp [vVerbs]
  | a :: c :: r, b => by
    have := vv_snoc v (c :: r) (decide (a.k = 4))
    obtain ⟨w, hw⟩ : ∃ w, (c :: r).getLast? = some w := ⟨_, List.getLast?_eq_some_getLast (List.cons_ne_nil c r)⟩
    rw [hw] at this
    rw [List.getLast?_cons_cons, hw]
    rw [show (a :: c :: r) ++ [v] = a :: ((c :: r) ++ [v]) from rfl]
    rw [vVerbs, vVerbs, this, Bool.and_assoc]
theorem vv_last (v : Verb) (o : List Verb) : vVerbs true (o ++ [v]) = (vVerbs true o && vVerb (decide (lastK o = 4)) v) := by
  rw [vv_snoc]
  unfold lastK
  cases o.getLast? <;> rfl
theorem lastK_snoc (o : List Verb) (v : Verb) : lastK (o ++ [v]) = v.k := by simp [lastK]
theorem nPts_snoc (o : List Verb) (v : Verb) : nPts (o ++ [v]) = nPts o + v.ps.length := by simp [nPts]
structure PV (o : List Verb) (a b : Int) : Prop where
  vv : vVerbs true o = true
  len : (o.length : Int) ≤ a
  pts : (nPts o : Int) ≤ b
theorem PV.nil : PV [] 0 0 := ⟨rfl, by simp, by simp [nPts]⟩
theorem PV.mono {o : List Verb} {a b a' b' : Int} (h : PV o a b) (h1 : a ≤ a') (h2 : b ≤ b') : PV o a' b' := ⟨h.vv, by have := h.len; omega, by have := h.pts; omega⟩
theorem PV.move {o : List Verb} {a b : Int} (h : PV o a b) {p : Pt} (hp : vPt p = true) : PV (o ++ [⟨0, [p]⟩]) (a + 1) (b + 1) := by
  refine ⟨?_, by have := h.len; simp only [List.length_append, List.length_singleton]; omega, by have := h.pts; rw [nPts_snoc]; simp only [List.length_singleton]; omega⟩
  rw [vv_last, h.vv]
  simp [vVerb, many, vPts, hp]
theorem PV.verb {o : List Verb} {a b k : Int} (h : PV o a b) {l : List Pt} (hk : lastK o ≠ 4) (k1 : 1 ≤ k) (k3 : k ≤ 3) (hl : (l.length : Int) = k) (hp : l.all vPt = true) : PV (o ++ [⟨k, l⟩]) (a + 1) (b + 3) := by
  refine ⟨?_, by have := h.len; simp only [List.length_append, List.length_singleton]; omega, by have := h.pts; rw [nPts_snoc]; dsimp only; omega⟩
  have hm : (l.length : Int) = many k := by
    have : k = 1 ∨ k = 2 ∨ k = 3 := by omega
    rcases this with rfl | rfl | rfl <;> simpa [many] using hl
  rw [vv_last, h.vv, decide_eq_false hk]
  unfold vVerb vPts
  rw [decide_eq_true (p := 0 ≤ k ∧ k ≤ 4) (by omega), decide_eq_true hm, decide_eq_true (p := l.length ≤ 40) (by omega), hp]
  rfl
theorem PV.shut {o : List Verb} {a b : Int} (h : PV o a b) (hk : lastK o ≠ 4) : PV (o ++ [⟨4, []⟩]) (a + 1) b := by
  refine ⟨?_, by have := h.len; simp only [List.length_append, List.length_singleton]; omega, by have := h.pts; rw [nPts_snoc]; simp only [List.length_nil]; omega⟩
  rw [vv_last, h.vv, decide_eq_false hk]
  simp [vVerb, many, vPts]
theorem PV.box {o : List Verb} {a b : Int} (h : PV o a b) {x : Bx} (hx : bxOk x = true) : PV (o ++ polyV (bxPts x)) (a + 5) (b + 4) := by
  simp only [bxOk, vBx, Bool.and_eq_true, decide_eq_true_eq] at hx
  have e : polyV (bxPts x) = [⟨0, [⟨x.l, x.t⟩]⟩, ⟨1, [⟨x.r, x.t⟩]⟩, ⟨1, [⟨x.r, x.b⟩]⟩, ⟨1, [⟨x.l, x.b⟩]⟩, ⟨4, []⟩] := rfl
  have v1 : vPt ⟨x.l, x.t⟩ = true := by simp [vPt, isU]; omega
  have v2 : vPt ⟨x.r, x.t⟩ = true := by simp [vPt, isU]; omega
  have v3 : vPt ⟨x.r, x.b⟩ = true := by simp [vPt, isU]; omega
  have v4 : vPt ⟨x.l, x.b⟩ = true := by simp [vPt, isU]; omega
  have q1 := h.move v1
  have q2 := q1.verb (l := [⟨x.r, x.t⟩]) (k := 1) (by rw [lastK_snoc]; simp) (by decide) (by decide) rfl (by simp [v2])
  have q3 := q2.verb (l := [⟨x.r, x.b⟩]) (k := 1) (by rw [lastK_snoc]; simp) (by decide) (by decide) rfl (by simp [v3])
  have q4 := q3.verb (l := [⟨x.l, x.b⟩]) (k := 1) (by rw [lastK_snoc]; simp) (by decide) (by decide) rfl (by simp [v4])
  have q5 := q4.shut (by rw [lastK_snoc]; simp)
  rw [e]
  simp only [List.append_assoc, List.cons_append, List.nil_append] at q5
  refine ⟨q5.vv, by have := q5.len; omega, ?_⟩
  have := h.pts
  simp only [nPts, List.map_append, List.sum_append, List.map_cons, List.map_nil, List.sum_cons, List.sum_nil, List.length_cons, List.length_nil] at this ⊢
  omega
theorem PV.path {o : List Verb} {a b : Int} (h : PV o a b) (ha : a ≤ 30) (hb : b ≤ 40) : vPath o = true := by
  have := h.len
  have := h.pts
  simp only [vPath, h.vv, Bool.true_and, Bool.and_eq_true, decide_eq_true_eq]
  omega
end Go.Proofs.YthphndhiacikaaaDoor
end
section
set_option maxRecDepth 100000
set_option linter.unusedSimpArgs false
set_option linter.unusedVariables false
namespace Go.Proofs.YthphndhiacikaaaDoor
open Go Go.VE
theorem PV.sub {o o' : List Verb} {a b a' b' : Int} (h : PV o' a b) (e : o' = o) (h1 : a ≤ a') (h2 : b ≤ b') : PV o a' b' := e ▸ h.mono h1 h2
theorem vPt_rng {p : Pt} (h1 : -16 ≤ p.x) (h2 : p.x ≤ 207) (h3 : -16 ≤ p.y) (h4 : p.y ≤ 207) : vPt p = true := by simp [vPt, isU]; omega
def spRPath_A : Unit → List AV
  | () => [.c .rdr]
def spRPath_pre : Unit → Prop
  | () => True
def spRPath_post : Unit → AV → List Box → Prop
  | (), r, bs => ∃ p, r = .c (.own 0 p.length false) ∧ bs = [⟨p.map vbC, 2, 43, true, false⟩] ∧ vPath p = true
def spRPath : VE.Spec := famSpec spRPath_A d_r spRPath_pre spRPath_post 112 false
theorem spRPath_q : spRPath.flat = false ∧ spRPath.mt = [] ∧ spRPath.shut = false ∧ spRPath.cost = 112 ∧ (∀ a i, spRPath.pre a i = (i = [] ∧ famPre d_r spRPath_A spRPath_pre a)) ∧ ∀ a i r b, spRPath.post a i r b = (famPost d_r spRPath_post a r b) := ⟨rfl, rfl, rfl, rfl, fun _ _ => rfl, fun _ _ _ _ => rfl⟩
def tb49 : Nat → Option VE.Spec := tabOf [(51, wkIn spOne), (50, wkIn spPick), (52, wkIn spSome), (74, wkIn spBnd), (73, wkIn spTidy), (72, wkIn spBoxP), (19, wkIn spVPath)]
theorem tb49_51 : tb49 51 = some (wkIn spOne) := rfl
theorem tb49_50 : tb49 50 = some (wkIn spPick) := rfl
theorem tb49_52 : tb49 52 = some (wkIn spSome) := rfl
theorem tb49_74 : tb49 74 = some (wkIn spBnd) := rfl
theorem tb49_73 : tb49 73 = some (wkIn spTidy) := rfl
theorem tb49_72 : tb49 72 = some (wkIn spBoxP) := rfl
theorem tb49_19 : tb49 19 = some (wkIn spVPath) := rfl
theorem tb49_ok : TabOK Tryd.prog rt0 tb49 := (tabOf_cons (by kernel_rfl) sat_spec_reader_one (tabOf_cons (by kernel_rfl) sat_spec_reader_pick (tabOf_cons (by kernel_rfl) sat_spec_somePoint (tabOf_cons (by kernel_rfl) sat_spec_bounds (tabOf_cons (by kernel_rfl) sat_spec_tidy (tabOf_cons (by kernel_rfl) sat_spec_BoxPath (tabOf_cons (by kernel_rfl) sat_spec_validPath tabOf_nil)))))))
set_option maxHeartbeats 4000000 in
theorem sat_spec_randomPath_0 : Sat Tryd.prog rt0 49 (wkOut spRPath) := by
  refine fn_sat hm ttok (tab := tb49) tb49_ok Tryd.func49 (c := Tryd.f49.body.getD .skip) (by kernel_rfl) (ts := [.tmp 2]) (by kernel_rfl) Tryd.ntmps49 (sq := fun _ => true) (by kernel_rfl) ?_
  intro args ins pk hpre0 hpk
  obtain ⟨rfl, hpre0⟩ := hpre0
  obtain ⟨⟨⟩, rfl, hpre, hdec⟩ := famPre_ex hpre0
  clear hpre0 hdec
  try simp only [spRPath_pre] at hpre
  replace hpk : pk + 112 ≤ pickLimit := hpk
  refine ⟨Nat.le_of_ble_eq_true rfl, ?_⟩
  simp (config := { maxSteps := 1000000 }) only [go_sem, ↓ifP_true, ↓ifP_false, ↓ifP_not, Nat.reduceLT, Nat.reduceAdd, Nat.reduceBEq, Nat.reduceSub, Nat.reduceLeDiff, Nat.reduceEqDiff, Nat.reduceMul, Int.reduceToNat, Int.reduceEq, Int.reduceLT, Int.reduceLE, Int.reduceAdd, Int.reduceSub, Int.reduceMul, reduceCtorEq, cond_true, cond_false, forall_eq', forall_eq, forall_const, implies_true, if_true, if_false, exists_eq_left', exists_eq', exists_eq, ne_eq, Tryd.f49, tb49_51, tb49_50, tb49_52, tb49_74, tb49_73, tb49_72, tb49_19, spRPath_q, spRPath_A, spRPath_pre, spRPath_post, spOne_q, spOne_A, spOne_pre, spOne_post, spPick_q, spPick_A, spPick_pre, spPick_post, spSome_q, spSome_A, spSome_pre, spSome_post, spBnd_q, spBnd_A, spBnd_pre, spBnd_post, spTidy_q, spTidy_A, spTidy_pre, spTidy_post, spBoxP_q, spBoxP_A, spBoxP_pre, spBoxP_post, spVPath_q, spVPath_A, spVPath_pre, spVPath_post]
  repeat' (first | apply And.intro | (intro hh; try simp only [List.mem_cons, List.not_mem_nil, or_false] at hh) | omega | assumption | with_reducible rfl)
  refine loopS (α := (List Verb) × Int) true [1, 3, 4, 5, 6, 7, 8, 9, 10, 11, 12, 13, 14, 15, 16, 17, 18, 19, 20, 21, 22, 23, 24, 25, 26, 27, 28, 29, 30, 31, 32, 33, 34, 35, 36, 37, 38, 39, 40, 41, 42, 43, 44, 45, 46, 47, 48, 49, 50, 51, 52, 53, 54, 55, 56, 57, 58, 59, 60, 61, 62, 63, 64, 65, 66, 67, 68, 69, 70, 71, 72, 73, 74, 75, 76, 77, 80] (fun σ => [gId (σ.get 3)]) (fun σ x => [(3, .c (.own (gId (σ.get 3)) (x.1).length false)), (4, I x.2)]) (fun σ x => [(gId (σ.get 3), some ⟨(x.1).map vbC, 2, 43, true, false⟩)]) (fun (o, n) => (37 * (3 - n)).toNat) (fun σ => (gL vbCd σ (σ.get 3), gI (σ.get 4))) (fun σ τ => [(gId (σ.get 3), gId (τ.get 3))]) (fun (o, n) => (0 ≤ n ∧ n ≤ 3) ∧ PV o (6 * (3 - n)) (13 * (3 - n))) (fun (o, n) => n.toNat) ⟨by (simp (config := { maxSteps := 1000000 }) only [go_sem, ↓ifP_true, ↓ifP_false, ↓ifP_not, Nat.reduceLT, Nat.reduceAdd, Nat.reduceBEq, Nat.reduceSub, Nat.reduceLeDiff, Nat.reduceEqDiff, Nat.reduceMul, Int.reduceToNat, Int.reduceEq, Int.reduceLT, Int.reduceLE, Int.reduceAdd, Int.reduceSub, Int.reduceMul, reduceCtorEq, cond_true, cond_false, forall_eq', forall_eq, forall_const, implies_true, if_true, if_false, exists_eq_left', exists_eq', exists_eq, ne_eq, Tryd.f49, tb49_51, tb49_50, tb49_52, tb49_74, tb49_73, tb49_72, tb49_19, spRPath_q, spRPath_A, spRPath_pre, spRPath_post, spOne_q, spOne_A, spOne_pre, spOne_post, spPick_q, spPick_A, spPick_pre, spPick_post, spSome_q, spSome_A, spSome_pre, spSome_post, spBnd_q, spBnd_A, spBnd_pre, spBnd_post, spTidy_q, spTidy_A, spTidy_pre, spTidy_post, spBoxP_q, spBoxP_A, spBoxP_pre, spBoxP_post, spVPath_q, spVPath_A, spVPath_pre, spVPath_post]; (repeat' (first | apply And.intro | (intro hh; try simp only [List.mem_cons, List.not_mem_nil, or_false] at hh) | omega | assumption | with_reducible rfl)); all_goals (first | exact PV.nil.mono (by omega) (by omega))), ?_⟩
  rintro ⟨o, n⟩ hinv
  try dsimp only at hinv
  simp (config := { maxSteps := 1000000 }) only [go_sem, ↓ifP_true, ↓ifP_false, ↓ifP_not, Nat.reduceLT, Nat.reduceAdd, Nat.reduceBEq, Nat.reduceSub, Nat.reduceLeDiff, Nat.reduceEqDiff, Nat.reduceMul, Int.reduceToNat, Int.reduceEq, Int.reduceLT, Int.reduceLE, Int.reduceAdd, Int.reduceSub, Int.reduceMul, reduceCtorEq, cond_true, cond_false, forall_eq', forall_eq, forall_const, implies_true, if_true, if_false, exists_eq_left', exists_eq', exists_eq, ne_eq, Tryd.f49, tb49_51, tb49_50, tb49_52, tb49_74, tb49_73, tb49_72, tb49_19, spRPath_q, spRPath_A, spRPath_pre, spRPath_post, spOne_q, spOne_A, spOne_pre, spOne_post, spPick_q, spPick_A, spPick_pre, spPick_post, spSome_q, spSome_A, spSome_pre, spSome_post, spBnd_q, spBnd_A, spBnd_pre, spBnd_post, spTidy_q, spTidy_A, spTidy_pre, spTidy_post, spBoxP_q, spBoxP_A, spBoxP_pre, spBoxP_post, spVPath_q, spVPath_A, spVPath_pre, spVPath_post]
  repeat' (first | apply And.intro | (intro hh; try simp only [List.mem_cons, List.not_mem_nil, or_false] at hh) | omega | assumption | with_reducible rfl)
  any_goals
    have hL := hinv.2.len
    refine loopS (α := (List Verb) × Int) true [1, 3, 7, 8, 9, 10, 11, 12, 13, 14, 15, 16, 17, 18, 19, 20, 21, 22, 23, 24, 25, 26, 27, 28, 29, 30, 31, 32, 33, 34, 35, 36, 37, 38, 39, 40, 41, 42, 43, 44, 45, 46, 47, 48, 49, 50, 51, 52, 53, 54, 55, 56, 57, 58, 59, 60, 61, 62, 63, 64, 65, 66, 67, 68, 69, 70, 73, 80] (fun σ => [gId (σ.get 42), gId (σ.get 3)]) (fun σ x => [(3, .c (.own (gId (σ.get 3)) (x.1).length false)), (7, I x.2)]) (fun σ x => [(gId (σ.get 3), some ⟨(x.1).map vbC, 2, 43, true, false⟩)]) (fun (o, k) => (7 * (4 - k)).toNat) (fun σ => (gL vbCd σ (σ.get 3), gI (σ.get 7))) (fun σ τ => [(gId (σ.get 3), gId (τ.get 3))]) (fun (o, k) => (0 ≤ k ∧ k ≤ 4) ∧ PV o (6 * (3 - n) + 1 + (4 - k)) (13 * (3 - n) + 1 + 3 * (4 - k)) ∧ lastK o ≠ 4) (fun (o, k) => k.toNat) ⟨by (simp (config := { maxSteps := 1000000 }) only [go_sem, ↓ifP_true, ↓ifP_false, ↓ifP_not, Nat.reduceLT, Nat.reduceAdd, Nat.reduceBEq, Nat.reduceSub, Nat.reduceLeDiff, Nat.reduceEqDiff, Nat.reduceMul, Int.reduceToNat, Int.reduceEq, Int.reduceLT, Int.reduceLE, Int.reduceAdd, Int.reduceSub, Int.reduceMul, reduceCtorEq, cond_true, cond_false, forall_eq', forall_eq, forall_const, implies_true, if_true, if_false, exists_eq_left', exists_eq', exists_eq, ne_eq, Tryd.f49, tb49_51, tb49_50, tb49_52, tb49_74, tb49_73, tb49_72, tb49_19, spRPath_q, spRPath_A, spRPath_pre, spRPath_post, spOne_q, spOne_A, spOne_pre, spOne_post, spPick_q, spPick_A, spPick_pre, spPick_post, spSome_q, spSome_A, spSome_pre, spSome_post, spBnd_q, spBnd_A, spBnd_pre, spBnd_post, spTidy_q, spTidy_A, spTidy_pre, spTidy_post, spBoxP_q, spBoxP_A, spBoxP_pre, spBoxP_post, spVPath_q, spVPath_A, spVPath_pre, spVPath_post]; (repeat' (first | apply And.intro | (intro hh; try simp only [List.mem_cons, List.not_mem_nil, or_false] at hh) | omega | assumption | with_reducible rfl)); all_goals (first | (refine (hinv.2.move (vPt_rng ‹_› ‹_› ‹_› ‹_›)).mono ?_ ?_ <;> omega) | (rw [lastK_snoc] at *; simp at *))), ?_⟩
    rintro ⟨o, k⟩ hinv
    try dsimp only at hinv
    simp (config := { maxSteps := 1000000 }) only [go_sem, ↓ifP_true, ↓ifP_false, ↓ifP_not, Nat.reduceLT, Nat.reduceAdd, Nat.reduceBEq, Nat.reduceSub, Nat.reduceLeDiff, Nat.reduceEqDiff, Nat.reduceMul, Int.reduceToNat, Int.reduceEq, Int.reduceLT, Int.reduceLE, Int.reduceAdd, Int.reduceSub, Int.reduceMul, reduceCtorEq, cond_true, cond_false, forall_eq', forall_eq, forall_const, implies_true, if_true, if_false, exists_eq_left', exists_eq', exists_eq, ne_eq, Tryd.f49, tb49_51, tb49_50, tb49_52, tb49_74, tb49_73, tb49_72, tb49_19, spRPath_q, spRPath_A, spRPath_pre, spRPath_post, spOne_q, spOne_A, spOne_pre, spOne_post, spPick_q, spPick_A, spPick_pre, spPick_post, spSome_q, spSome_A, spSome_pre, spSome_post, spBnd_q, spBnd_A, spBnd_pre, spBnd_post, spTidy_q, spTidy_A, spTidy_pre, spTidy_post, spBoxP_q, spBoxP_A, spBoxP_pre, spBoxP_post, spVPath_q, spVPath_A, spVPath_pre, spVPath_post]
    repeat' (first | apply And.intro | (intro hh; try simp only [List.mem_cons, List.not_mem_nil, or_false] at hh) | omega | assumption | with_reducible rfl)
  any_goals
    rename_i kd
    have hL := hinv.2.1.len
    refine loopS (α := (List Pt) × Int) true [1, 9, 10, 11, 12, 13, 14, 15, 16, 17, 18, 19, 20, 21, 22, 23, 24, 25, 26, 27, 28, 29, 30, 31, 32, 33, 34, 35, 36, 37, 38, 39, 40, 41, 42, 43, 44, 45, 46, 47, 48, 49, 50, 51, 52, 53, 54, 55, 56, 57, 58, 59, 60, 61, 62, 63, 64, 73, 80] (fun σ => [gId (σ.get 9)]) (fun σ x => [(9, .c (.own (gId (σ.get 9)) (x.1).length false)), (10, I x.2)]) (fun σ x => [(gId (σ.get 9), some ⟨(x.1).map ptC, 2, 47, true, false⟩)]) (fun (q, i) => (2 * i).toNat) (fun σ => (gL ptCd σ (σ.get 9), gI (σ.get 10))) (fun σ τ => [(gId (σ.get 9), gId (τ.get 9))]) (fun (q, i) => (0 ≤ i ∧ i ≤ kd) ∧ (q.length : Int) = i ∧ q.all vPt = true) (fun (q, i) => (kd - i).toNat) ⟨by (simp (config := { maxSteps := 1000000 }) only [go_sem, ↓ifP_true, ↓ifP_false, ↓ifP_not, Nat.reduceLT, Nat.reduceAdd, Nat.reduceBEq, Nat.reduceSub, Nat.reduceLeDiff, Nat.reduceEqDiff, Nat.reduceMul, Int.reduceToNat, Int.reduceEq, Int.reduceLT, Int.reduceLE, Int.reduceAdd, Int.reduceSub, Int.reduceMul, reduceCtorEq, cond_true, cond_false, forall_eq', forall_eq, forall_const, implies_true, if_true, if_false, exists_eq_left', exists_eq', exists_eq, ne_eq, Tryd.f49, tb49_51, tb49_50, tb49_52, tb49_74, tb49_73, tb49_72, tb49_19, spRPath_q, spRPath_A, spRPath_pre, spRPath_post, spOne_q, spOne_A, spOne_pre, spOne_post, spPick_q, spPick_A, spPick_pre, spPick_post, spSome_q, spSome_A, spSome_pre, spSome_post, spBnd_q, spBnd_A, spBnd_pre, spBnd_post, spTidy_q, spTidy_A, spTidy_pre, spTidy_post, spBoxP_q, spBoxP_A, spBoxP_pre, spBoxP_post, spVPath_q, spVPath_A, spVPath_pre, spVPath_post]; (repeat' (first | apply And.intro | (intro hh; try simp only [List.mem_cons, List.not_mem_nil, or_false] at hh) | omega | assumption | with_reducible rfl))), ?_⟩
    rintro ⟨q, i⟩ hinv
    try dsimp only at hinv
    simp (config := { maxSteps := 1000000 }) only [go_sem, ↓ifP_true, ↓ifP_false, ↓ifP_not, Nat.reduceLT, Nat.reduceAdd, Nat.reduceBEq, Nat.reduceSub, Nat.reduceLeDiff, Nat.reduceEqDiff, Nat.reduceMul, Int.reduceToNat, Int.reduceEq, Int.reduceLT, Int.reduceLE, Int.reduceAdd, Int.reduceSub, Int.reduceMul, reduceCtorEq, cond_true, cond_false, forall_eq', forall_eq, forall_const, implies_true, if_true, if_false, exists_eq_left', exists_eq', exists_eq, ne_eq, Tryd.f49, tb49_51, tb49_50, tb49_52, tb49_74, tb49_73, tb49_72, tb49_19, spRPath_q, spRPath_A, spRPath_pre, spRPath_post, spOne_q, spOne_A, spOne_pre, spOne_post, spPick_q, spPick_A, spPick_pre, spPick_post, spSome_q, spSome_A, spSome_pre, spSome_post, spBnd_q, spBnd_A, spBnd_pre, spBnd_post, spTidy_q, spTidy_A, spTidy_pre, spTidy_post, spBoxP_q, spBoxP_A, spBoxP_pre, spBoxP_post, spVPath_q, spVPath_A, spVPath_pre, spVPath_post]
    repeat' (first | apply And.intro | (intro hh; try simp only [List.mem_cons, List.not_mem_nil, or_false] at hh) | omega | assumption | with_reducible rfl)
  all_goals (first | ((rw [if_pos hh]; exact (hinv.2.box hh).mono (by omega) (by omega)); done) | ((have hL := (hinv.2.box hh).len; rw [List.length_append] at hL; rw [if_pos hh]; omega); done) | ((simp only [List.all_append, List.all_cons, List.all_nil, hinv.2.2, vPt_rng ‹_› ‹_› ‹_› ‹_›]; rfl); done) | ((have hL := hinv.2.len; omega); done) | ((have hL := hinv.2.1.len; omega); done) | ((rename_i h1 _ _; have hL := h1.2.1.len; omega); done) | ((rename_i h1 _ _; exact ((h1.2.1.verb h1.2.2 (by omega) (by omega) (by omega) hinv.2.2).mono (by omega) (by omega))); done) | ((rw [lastK_snoc] at hh; dsimp only at hh; omega); done) | (exact (hinv.2.1.shut hinv.2.2).mono (by omega) (by omega); done) | (exact hinv.2.1.mono (by omega) (by omega); done) | (exact ⟨_, rfl, rfl, hinv.2.path (by omega) (by omega)⟩; done) | ((have h1 := hinv.2.path (by omega) (by omega); have h2 := hinv.2.pts; simp_all); done) | ((have h2 := hinv.2.pts; omega); done))
theorem sat_spec_randomPath : Sat Tryd.prog rt0 49 (wkIn spRPath) := sat_in (sat_out sat_spec_randomPath_0)
end Go.Proofs.YthphndhiacikaaaDoor
end
