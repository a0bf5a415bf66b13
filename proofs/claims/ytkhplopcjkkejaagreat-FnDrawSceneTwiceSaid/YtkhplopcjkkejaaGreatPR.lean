/- Contracts of functions of the program vectorraster, each proved for all states that fit its description. No conditions. -/
import Derived.Test.YtkhplopcjkkejaaGreatPQ
import Derived.Test.YtkhplopcjkkejaaGreatPE
import Derived.Test.YtkhplopcjkkejaaGreatPD
import Derived.Test.YtkhplopcjkkejaaGreatPH
set_option linter.unusedSimpArgs false
set_option linter.unusedVariables false
section
set_option maxRecDepth 100000
set_option linter.unusedSimpArgs false
set_option linter.unusedVariables false
namespace Go.Proofs.YtkhplopcjkkejaaGreat
open Go Go.VE
def rnd (a b : Int) : Int := (2 * a + b) / (2 * b)
def plainC (r g b a : Int) : Colr := ⟨rnd (r * a) 255, rnd (g * a) 255, rnd (b * a) 255, a⟩
def spRnd_A : Int × Int → List AV
  | (a, b) => [I a, I b]
def spRnd_pre : Int × Int → Prop
  | (a, b) => 1 ≤ b ∧ b ≤ 1000000000000 ∧ -1000000000000 ≤ a ∧ a ≤ 1000000000000
def spRnd_post : Int × Int → AV → List Box → Prop
  | (a, b), r, bs => r = I (rnd a b) ∧ bs = []
def spRnd : VE.Spec := famSpec spRnd_A d_i_i spRnd_pre spRnd_post 0 true
theorem spRnd_q : spRnd.flat = true ∧ spRnd.mt = [] ∧ spRnd.shut = false ∧ spRnd.cost = 0 ∧ (∀ a i, spRnd.pre a i = (i = [] ∧ famPre d_i_i spRnd_A spRnd_pre a)) ∧ ∀ a i r b, spRnd.post a i r b = (famPost d_i_i spRnd_post a r b) := ⟨rfl, rfl, rfl, rfl, fun _ _ => rfl, fun _ _ _ _ => rfl⟩
def tb141 : Nat → Option VE.Spec := tabOf [(174, wkIn spFloor)]
theorem tb141_174 : tb141 174 = some (wkIn spFloor) := rfl
theorem tb141_ok : TabOK Tryz.prog rt0 tb141 := (tabOf_cons (by kernel_rfl) sat_spec_floorDiv tabOf_nil)
set_option maxHeartbeats 4000000 in
theorem sat_spec_nearest_0 : Sat Tryz.prog rt0 141 (wkOut spRnd) := by
  refine fn_sat hm ttok (tab := tb141) tb141_ok Tryz.func141 (c := Tryz.f141.body.getD .skip) (by kernel_rfl) (ts := [.tmp 4]) (by kernel_rfl) Tryz.ntmps141 (sq := fun _ => true) (by kernel_rfl) ?_
  intro args ins pk hpre0 hpk
  obtain ⟨rfl, hpre0⟩ := hpre0
  obtain ⟨⟨a, b⟩, rfl, hpre, hdec⟩ := famPre_ex hpre0
  clear hpre0 hdec
  try simp only [spRnd_pre] at hpre
  replace hpk : pk + 0 ≤ pickLimit := hpk
  refine ⟨Nat.le_of_ble_eq_true rfl, ?_⟩
  simp (config := { maxSteps := 1000000 }) only [go_sem, ↓ifP_true, ↓ifP_false, ↓ifP_not, Nat.reduceLT, Nat.reduceAdd, Nat.reduceBEq, Nat.reduceSub, Nat.reduceLeDiff, Nat.reduceEqDiff, Nat.reduceMul, Int.reduceToNat, Int.reduceEq, Int.reduceLT, Int.reduceLE, Int.reduceAdd, Int.reduceSub, Int.reduceMul, reduceCtorEq, cond_true, cond_false, forall_eq', forall_eq, forall_const, implies_true, if_true, if_false, exists_eq_left', exists_eq', exists_eq, ne_eq, Tryz.f141, tb141_174, spRnd_q, spRnd_A, spRnd_pre, spRnd_post, spFloor_q, spFloor_A, spFloor_pre, spFloor_post]
  repeat' (first | apply And.intro | (intro _) | omega | assumption | with_reducible rfl)
  all_goals (first | (rfl; done))
theorem sat_spec_nearest : Sat Tryz.prog rt0 141 (wkIn spRnd) := sat_in (sat_out sat_spec_nearest_0)
def tb64 : Nat → Option VE.Spec := tabOf [(105, wkIn spFloor)]
theorem tb64_105 : tb64 105 = some (wkIn spFloor) := rfl
theorem tb64_ok : TabOK Tryz.prog rt0 tb64 := (tabOf_cons (by kernel_rfl) sat_impl_floor tabOf_nil)
set_option maxHeartbeats 4000000 in
theorem sat_impl_round_0 : Sat Tryz.prog rt0 64 (wkOut spRnd) := by
  refine fn_sat hm ttok (tab := tb64) tb64_ok Tryz.func64 (c := Tryz.f64.body.getD .skip) (by kernel_rfl) (ts := [.tmp 4]) (by kernel_rfl) Tryz.ntmps64 (sq := fun _ => true) (by kernel_rfl) ?_
  intro args ins pk hpre0 hpk
  obtain ⟨rfl, hpre0⟩ := hpre0
  obtain ⟨⟨a, b⟩, rfl, hpre, hdec⟩ := famPre_ex hpre0
  clear hpre0 hdec
  try simp only [spRnd_pre] at hpre
  replace hpk : pk + 0 ≤ pickLimit := hpk
  refine ⟨Nat.le_of_ble_eq_true rfl, ?_⟩
  simp (config := { maxSteps := 1000000 }) only [go_sem, ↓ifP_true, ↓ifP_false, ↓ifP_not, Nat.reduceLT, Nat.reduceAdd, Nat.reduceBEq, Nat.reduceSub, Nat.reduceLeDiff, Nat.reduceEqDiff, Nat.reduceMul, Int.reduceToNat, Int.reduceEq, Int.reduceLT, Int.reduceLE, Int.reduceAdd, Int.reduceSub, Int.reduceMul, reduceCtorEq, cond_true, cond_false, forall_eq', forall_eq, forall_const, implies_true, if_true, if_false, exists_eq_left', exists_eq', exists_eq, ne_eq, Tryz.f64, tb64_105, spRnd_q, spRnd_A, spRnd_pre, spRnd_post, spFloor_q, spFloor_A, spFloor_pre, spFloor_post]
  repeat' (first | apply And.intro | (intro _) | omega | assumption | with_reducible rfl)
  all_goals (first | (rfl; done))
theorem sat_impl_round : Sat Tryz.prog rt0 64 (wkIn spRnd) := sat_in (sat_out sat_impl_round_0)
def spPlain_A : Int × Int × Int × Int → List AV
  | (e, g, b, a) => [I e, I g, I b, I a]
def spPlain_pre : Int × Int × Int × Int → Prop
  | (e, g, b, a) => (0 ≤ e ∧ e ≤ 1000) ∧ (0 ≤ g ∧ g ≤ 1000) ∧ (0 ≤ b ∧ b ≤ 1000) ∧ 0 ≤ a ∧ a ≤ 1000
def spPlain_post : Int × Int × Int × Int → AV → List Box → Prop
  | (e, g, b, a), r, bs => r = .agg (coC (plainC e g b a)) ∧ bs = []
def spPlain : VE.Spec := famSpec spPlain_A d_i_i_i_i spPlain_pre spPlain_post 0 true
theorem spPlain_q : spPlain.flat = true ∧ spPlain.mt = [] ∧ spPlain.shut = false ∧ spPlain.cost = 0 ∧ (∀ a i, spPlain.pre a i = (i = [] ∧ famPre d_i_i_i_i spPlain_A spPlain_pre a)) ∧ ∀ a i r b, spPlain.post a i r b = (famPost d_i_i_i_i spPlain_post a r b) := ⟨rfl, rfl, rfl, rfl, fun _ _ => rfl, fun _ _ _ _ => rfl⟩
def tb166 : Nat → Option VE.Spec := tabOf [(141, wkIn spRnd)]
theorem tb166_141 : tb166 141 = some (wkIn spRnd) := rfl
theorem tb166_ok : TabOK Tryz.prog rt0 tb166 := (tabOf_cons (by kernel_rfl) sat_spec_nearest tabOf_nil)
set_option maxHeartbeats 4000000 in
theorem sat_spec_plain_0 : Sat Tryz.prog rt0 166 (wkOut spPlain) := by
  refine fn_sat hm ttok (tab := tb166) tb166_ok Tryz.func166 (c := Tryz.f166.body.getD .skip) (by kernel_rfl) (ts := [.cell 8 29]) (by kernel_rfl) Tryz.ntmps166 (sq := fun _ => true) (by kernel_rfl) ?_
  intro args ins pk hpre0 hpk
  obtain ⟨rfl, hpre0⟩ := hpre0
  obtain ⟨⟨e, g, b, a⟩, rfl, hpre, hdec⟩ := famPre_ex hpre0
  clear hpre0 hdec
  try simp only [spPlain_pre] at hpre
  replace hpk : pk + 0 ≤ pickLimit := hpk
  refine ⟨Nat.le_of_ble_eq_true rfl, ?_⟩
  have m1 := mul_bd (m := 1000) (n := 1000) (show -1000 ≤ e by omega) (by omega) (show -1000 ≤ a by omega) (by omega)
  have m2 := mul_bd (m := 1000) (n := 1000) (show -1000 ≤ g by omega) (by omega) (show -1000 ≤ a by omega) (by omega)
  have m3 := mul_bd (m := 1000) (n := 1000) (show -1000 ≤ b by omega) (by omega) (show -1000 ≤ a by omega) (by omega)
  simp (config := { maxSteps := 1000000 }) only [go_sem, ↓ifP_true, ↓ifP_false, ↓ifP_not, Nat.reduceLT, Nat.reduceAdd, Nat.reduceBEq, Nat.reduceSub, Nat.reduceLeDiff, Nat.reduceEqDiff, Nat.reduceMul, Int.reduceToNat, Int.reduceEq, Int.reduceLT, Int.reduceLE, Int.reduceAdd, Int.reduceSub, Int.reduceMul, reduceCtorEq, cond_true, cond_false, forall_eq', forall_eq, forall_const, implies_true, if_true, if_false, exists_eq_left', exists_eq', exists_eq, ne_eq, Tryz.f166, tb166_141, spPlain_q, spPlain_A, spPlain_pre, spPlain_post, spRnd_q, spRnd_A, spRnd_pre, spRnd_post]
  repeat' (first | apply And.intro | (intro _) | omega | assumption | with_reducible rfl)
  all_goals (first | (rfl; done))
theorem sat_spec_plain : Sat Tryz.prog rt0 166 (wkIn spPlain) := sat_in (sat_out sat_spec_plain_0)
def spRCol_A : Unit → List AV
  | () => [.c .rdr]
def spRCol_pre : Unit → Prop
  | () => True
def spRCol_post : Unit → AV → List Box → Prop
  | (), r, bs => ∃ c : Colr, r = .agg (coC c) ∧ bs = [] ∧ 0 ≤ c.a ∧ c.a ≤ 255
def spRCol : VE.Spec := famSpec spRCol_A d_r spRCol_pre spRCol_post 4 false
theorem spRCol_q : spRCol.flat = false ∧ spRCol.mt = [] ∧ spRCol.shut = false ∧ spRCol.cost = 4 ∧ (∀ a i, spRCol.pre a i = (i = [] ∧ famPre d_r spRCol_A spRCol_pre a)) ∧ ∀ a i r b, spRCol.post a i r b = (famPost d_r spRCol_post a r b) := ⟨rfl, rfl, rfl, rfl, fun _ _ => rfl, fun _ _ _ _ => rfl⟩
def tb124 : Nat → Option VE.Spec := tabOf [(90, wkIn spPick), (46, wkIn spOne), (166, wkIn spPlain)]
theorem tb124_90 : tb124 90 = some (wkIn spPick) := rfl
theorem tb124_46 : tb124 46 = some (wkIn spOne) := rfl
theorem tb124_166 : tb124 166 = some (wkIn spPlain) := rfl
theorem tb124_ok : TabOK Tryz.prog rt0 tb124 := (tabOf_cons (by kernel_rfl) sat_spec_reader_pick (tabOf_cons (by kernel_rfl) sat_spec_reader_one (tabOf_cons (by kernel_rfl) sat_spec_plain tabOf_nil)))
set_option maxHeartbeats 4000000 in
theorem sat_spec_randomColor_0 : Sat Tryz.prog rt0 124 (wkOut spRCol) := by
  refine fn_sat hm ttok (tab := tb124) tb124_ok Tryz.func124 (c := Tryz.f124.body.getD .skip) (by kernel_rfl) (ts := [.cell 2 29]) (by kernel_rfl) Tryz.ntmps124 (sq := fun _ => true) (by kernel_rfl) ?_
  intro args ins pk hpre0 hpk
  obtain ⟨rfl, hpre0⟩ := hpre0
  obtain ⟨⟨⟩, rfl, hpre, hdec⟩ := famPre_ex hpre0
  clear hpre0 hdec
  try simp only [spRCol_pre] at hpre
  replace hpk : pk + 4 ≤ pickLimit := hpk
  refine ⟨Nat.le_of_ble_eq_true rfl, ?_⟩
  simp (config := { maxSteps := 1000000 }) only [go_sem, ↓ifP_true, ↓ifP_false, ↓ifP_not, Nat.reduceLT, Nat.reduceAdd, Nat.reduceBEq, Nat.reduceSub, Nat.reduceLeDiff, Nat.reduceEqDiff, Nat.reduceMul, Int.reduceToNat, Int.reduceEq, Int.reduceLT, Int.reduceLE, Int.reduceAdd, Int.reduceSub, Int.reduceMul, reduceCtorEq, cond_true, cond_false, forall_eq', forall_eq, forall_const, implies_true, if_true, if_false, exists_eq_left', exists_eq', exists_eq, ne_eq, Tryz.f124, tb124_90, tb124_46, tb124_166, spRCol_q, spRCol_A, spRCol_pre, spRCol_post, spPick_q, spPick_A, spPick_pre, spPick_post, spOne_q, spOne_A, spOne_pre, spOne_post, spPlain_q, spPlain_A, spPlain_pre, spPlain_post, Picks]
  repeat' (first | apply And.intro | (intro _) | omega | assumption | with_reducible rfl)
  all_goals (first | ((simp only [List.mem_cons, List.not_mem_nil, or_false, plainC] at *; omega); done))
theorem sat_spec_randomColor : Sat Tryz.prog rt0 124 (wkIn spRCol) := sat_in (sat_out sat_spec_randomColor_0)
def spACol_A : Unit → List AV
  | () => [.c .rdr]
def spACol_pre : Unit → Prop
  | () => True
def spACol_post : Unit → AV → List Box → Prop
  | (), r, bs => ∃ c : Colr, r = .agg (coC c) ∧ bs = []
def spACol : VE.Spec := famSpec spACol_A d_r spACol_pre spACol_post 6 false
theorem spACol_q : spACol.flat = false ∧ spACol.mt = [] ∧ spACol.shut = false ∧ spACol.cost = 6 ∧ (∀ a i, spACol.pre a i = (i = [] ∧ famPre d_r spACol_A spACol_pre a)) ∧ ∀ a i r b, spACol.post a i r b = (famPost d_r spACol_post a r b) := ⟨rfl, rfl, rfl, rfl, fun _ _ => rfl, fun _ _ _ _ => rfl⟩
def tb125 : Nat → Option VE.Spec := tabOf [(90, wkIn spPick), (46, wkIn spOne), (124, wkIn spRCol)]
theorem tb125_90 : tb125 90 = some (wkIn spPick) := rfl
theorem tb125_46 : tb125 46 = some (wkIn spOne) := rfl
theorem tb125_124 : tb125 124 = some (wkIn spRCol) := rfl
theorem tb125_ok : TabOK Tryz.prog rt0 tb125 := (tabOf_cons (by kernel_rfl) sat_spec_reader_pick (tabOf_cons (by kernel_rfl) sat_spec_reader_one (tabOf_cons (by kernel_rfl) sat_spec_randomColor tabOf_nil)))
set_option maxHeartbeats 4000000 in
theorem sat_spec_anyColor_0 : Sat Tryz.prog rt0 125 (wkOut spACol) := by
  refine fn_sat hm ttok (tab := tb125) tb125_ok Tryz.func125 (c := Tryz.f125.body.getD .skip) (by kernel_rfl) (ts := [.cell 2 29]) (by kernel_rfl) Tryz.ntmps125 (sq := fun _ => true) (by kernel_rfl) ?_
  intro args ins pk hpre0 hpk
  obtain ⟨rfl, hpre0⟩ := hpre0
  obtain ⟨⟨⟩, rfl, hpre, hdec⟩ := famPre_ex hpre0
  clear hpre0 hdec
  try simp only [spACol_pre] at hpre
  replace hpk : pk + 6 ≤ pickLimit := hpk
  refine ⟨Nat.le_of_ble_eq_true rfl, ?_⟩
  simp (config := { maxSteps := 1000000 }) only [go_sem, ↓ifP_true, ↓ifP_false, ↓ifP_not, Nat.reduceLT, Nat.reduceAdd, Nat.reduceBEq, Nat.reduceSub, Nat.reduceLeDiff, Nat.reduceEqDiff, Nat.reduceMul, Int.reduceToNat, Int.reduceEq, Int.reduceLT, Int.reduceLE, Int.reduceAdd, Int.reduceSub, Int.reduceMul, reduceCtorEq, cond_true, cond_false, forall_eq', forall_eq, forall_const, implies_true, if_true, if_false, exists_eq_left', exists_eq', exists_eq, ne_eq, Tryz.f125, tb125_90, tb125_46, tb125_124, spACol_q, spACol_A, spACol_pre, spACol_post, spPick_q, spPick_A, spPick_pre, spPick_post, spOne_q, spOne_A, spOne_pre, spOne_post, spRCol_q, spRCol_A, spRCol_pre, spRCol_post, Picks]
  repeat' (first | apply And.intro | (intro _) | omega | assumption | with_reducible rfl)
  all_goals (first | (exact ⟨⟨_, _, _, _⟩, (coC_mk _ _ _ _).symm⟩; done))
theorem sat_spec_anyColor : Sat Tryz.prog rt0 125 (wkIn spACol) := sat_in (sat_out sat_spec_anyColor_0)
end Go.Proofs.YtkhplopcjkkejaaGreat
end
section
set_option maxRecDepth 100000
set_option linter.unusedSimpArgs false
set_option linter.unusedVariables false
namespace Go.Proofs.YtkhplopcjkkejaaGreat
open Go Go.VE
def spRStops_A : Unit → List AV
  | () => [.c .rdr]
def spRStops_pre : Unit → Prop
  | () => True
def spRStops_post : Unit → AV → List Box → Prop
  | (), r, bs => ∃ l : List Stp, r = .c (.own 0 l.length false) ∧ bs = [⟨l.map stC, 5, 33, true, false⟩] ∧ 1 ≤ l.length ∧ l.length ≤ 4
def spRStops : VE.Spec := famSpec spRStops_A d_r spRStops_pre spRStops_post 30 false
theorem spRStops_q : spRStops.flat = false ∧ spRStops.mt = [] ∧ spRStops.shut = false ∧ spRStops.cost = 30 ∧ (∀ a i, spRStops.pre a i = (i = [] ∧ famPre d_r spRStops_A spRStops_pre a)) ∧ ∀ a i r b, spRStops.post a i r b = (famPost d_r spRStops_post a r b) := ⟨rfl, rfl, rfl, rfl, fun _ _ => rfl, fun _ _ _ _ => rfl⟩
def tb156 : Nat → Option VE.Spec := tabOf [(90, wkIn spPick), (46, wkIn spOne), (124, wkIn spRCol)]
theorem tb156_90 : tb156 90 = some (wkIn spPick) := rfl
theorem tb156_46 : tb156 46 = some (wkIn spOne) := rfl
theorem tb156_124 : tb156 124 = some (wkIn spRCol) := rfl
theorem tb156_ok : TabOK Tryz.prog rt0 tb156 := (tabOf_cons (by kernel_rfl) sat_spec_reader_pick (tabOf_cons (by kernel_rfl) sat_spec_reader_one (tabOf_cons (by kernel_rfl) sat_spec_randomColor tabOf_nil)))
set_option maxHeartbeats 4000000 in
theorem sat_spec_randomStops_0 : Sat Tryz.prog rt0 156 (wkOut spRStops) := by
  refine fn_sat hm ttok (tab := tb156) tb156_ok Tryz.func156 (c := Tryz.f156.body.getD .skip) (by kernel_rfl) (ts := [.tmp 2]) (by kernel_rfl) Tryz.ntmps156 (sq := fun _ => true) (by kernel_rfl) ?_
  intro args ins pk hpre0 hpk
  obtain ⟨rfl, hpre0⟩ := hpre0
  obtain ⟨⟨⟩, rfl, hpre, hdec⟩ := famPre_ex hpre0
  clear hpre0 hdec
  try simp only [spRStops_pre] at hpre
  replace hpk : pk + 30 ≤ pickLimit := hpk
  refine ⟨Nat.le_of_ble_eq_true rfl, ?_⟩
  simp (config := { maxSteps := 1000000 }) only [go_sem, ↓ifP_true, ↓ifP_false, ↓ifP_not, Nat.reduceLT, Nat.reduceAdd, Nat.reduceBEq, Nat.reduceSub, Nat.reduceLeDiff, Nat.reduceEqDiff, Nat.reduceMul, Int.reduceToNat, Int.reduceEq, Int.reduceLT, Int.reduceLE, Int.reduceAdd, Int.reduceSub, Int.reduceMul, reduceCtorEq, cond_true, cond_false, forall_eq', forall_eq, forall_const, implies_true, if_true, if_false, exists_eq_left', exists_eq', exists_eq, ne_eq, Tryz.f156, tb156_90, tb156_46, tb156_124, spRStops_q, spRStops_A, spRStops_pre, spRStops_post, spPick_q, spPick_A, spPick_pre, spPick_post, spOne_q, spOne_A, spOne_pre, spOne_post, spRCol_q, spRCol_A, spRCol_pre, spRCol_post, Picks]
  repeat' (first | apply And.intro | (intro _) | omega | assumption | with_reducible rfl)
  all_goals try (simp only [List.mem_cons, List.not_mem_nil, or_false] at *)
  any_goals
    refine loopS (α := (List Stp) × Int × Int) false [1, 3, 4, 5, 6, 7, 8, 9, 10, 11, 12, 13, 14, 15, 16, 17, 18, 19, 20, 21, 22, 23, 24, 25, 26, 27] (fun σ => [gId (σ.get 3)]) (fun σ x => [(3, .c (.own (gId (σ.get 3)) (x.1).length false)), (4, I x.2.1), (5, I x.2.2)]) (fun σ x => [(gId (σ.get 3), some ⟨(x.1).map stC, 5, 33, true, false⟩)]) (fun (o, a, n) => 5 * o.length) (fun σ => (gL stCd σ (σ.get 3), gI (σ.get 4), gI (σ.get 5))) (fun σ τ => [(gId (σ.get 3), gId (τ.get 3))]) (fun (o, a, n) => ((1 ≤ n ∨ 1 ≤ o.length) ∧ 0 ≤ n ∧ o.length + n ≤ 4) ∧ 0 ≤ a ∧ a ≤ 60 + 61 * o.length) (fun (o, a, n) => n.toNat) ⟨by (simp (config := { maxSteps := 1000000 }) only [go_sem, ↓ifP_true, ↓ifP_false, ↓ifP_not, Nat.reduceLT, Nat.reduceAdd, Nat.reduceBEq, Nat.reduceSub, Nat.reduceLeDiff, Nat.reduceEqDiff, Nat.reduceMul, Int.reduceToNat, Int.reduceEq, Int.reduceLT, Int.reduceLE, Int.reduceAdd, Int.reduceSub, Int.reduceMul, reduceCtorEq, cond_true, cond_false, forall_eq', forall_eq, forall_const, implies_true, if_true, if_false, exists_eq_left', exists_eq', exists_eq, ne_eq, Tryz.f156, tb156_90, tb156_46, tb156_124, spRStops_q, spRStops_A, spRStops_pre, spRStops_post, spPick_q, spPick_A, spPick_pre, spPick_post, spOne_q, spOne_A, spOne_pre, spOne_post, spRCol_q, spRCol_A, spRCol_pre, spRCol_post, Picks]; (repeat' (first | apply And.intro | (intro _) | omega | assumption | with_reducible rfl)); all_goals (first | omega)), ?_⟩
    rintro ⟨o, a, n⟩ hinv
    try dsimp only at hinv
    simp (config := { maxSteps := 1000000 }) only [go_sem, ↓ifP_true, ↓ifP_false, ↓ifP_not, Nat.reduceLT, Nat.reduceAdd, Nat.reduceBEq, Nat.reduceSub, Nat.reduceLeDiff, Nat.reduceEqDiff, Nat.reduceMul, Int.reduceToNat, Int.reduceEq, Int.reduceLT, Int.reduceLE, Int.reduceAdd, Int.reduceSub, Int.reduceMul, reduceCtorEq, cond_true, cond_false, forall_eq', forall_eq, forall_const, implies_true, if_true, if_false, exists_eq_left', exists_eq', exists_eq, ne_eq, Tryz.f156, tb156_90, tb156_46, tb156_124, spRStops_q, spRStops_A, spRStops_pre, spRStops_post, spPick_q, spPick_A, spPick_pre, spPick_post, spOne_q, spOne_A, spOne_pre, spOne_post, spRCol_q, spRCol_A, spRCol_pre, spRCol_post, Picks]
    repeat' (first | apply And.intro | (intro _) | omega | assumption | with_reducible rfl)
  
  all_goals (first | (exact ⟨_, rfl, rfl, by omega, by omega⟩; done) | (omega; done))
theorem sat_spec_randomStops : Sat Tryz.prog rt0 156 (wkIn spRStops) := sat_in (sat_out sat_spec_randomStops_0)
def spAStops_A : Unit → List AV
  | () => [.c .rdr]
def spAStops_pre : Unit → Prop
  | () => True
def spAStops_post : Unit → AV → List Box → Prop
  | (), r, bs => ∃ l : List Stp, r = .c (.own 0 l.length false) ∧ bs = [⟨l.map stC, 5, 33, true, false⟩] ∧ l.length ≤ 5
def spAStops : VE.Spec := famSpec spAStops_A d_r spAStops_pre spAStops_post 45 false
theorem spAStops_q : spAStops.flat = false ∧ spAStops.mt = [] ∧ spAStops.shut = false ∧ spAStops.cost = 45 ∧ (∀ a i, spAStops.pre a i = (i = [] ∧ famPre d_r spAStops_A spAStops_pre a)) ∧ ∀ a i r b, spAStops.post a i r b = (famPost d_r spAStops_post a r b) := ⟨rfl, rfl, rfl, rfl, fun _ _ => rfl, fun _ _ _ _ => rfl⟩
theorem ex_snoc {l : List Stp} (w : Int) (c : Colr) (h : l.length ≤ 4) : ∃ m : List Stp, l.length + 1 = m.length ∧ List.map stC l ++ [stC ⟨w, c⟩] = List.map stC m ∧ m.length ≤ 5 := ⟨l ++ [⟨w, c⟩], by simp, by simp, by simp; omega⟩
theorem ex_set {l : List Stp} (w : Int) (c : Colr) (h : l.length ≤ 4) : ∃ m : List Stp, l.length = m.length ∧ wkEs ((List.map stC l).set 0 (stC ⟨w, c⟩)) = List.map stC m ∧ m.length ≤ 5 := ⟨l.set 0 ⟨w, c⟩, by simp, by rw [← List.map_set]; exact stC_wks _, by simp; omega⟩
def tb111 : Nat → Option VE.Spec := tabOf [(90, wkIn spPick), (46, wkIn spOne), (124, wkIn spRCol), (125, wkIn spACol), (156, wkIn spRStops)]
theorem tb111_90 : tb111 90 = some (wkIn spPick) := rfl
theorem tb111_46 : tb111 46 = some (wkIn spOne) := rfl
theorem tb111_124 : tb111 124 = some (wkIn spRCol) := rfl
theorem tb111_125 : tb111 125 = some (wkIn spACol) := rfl
theorem tb111_156 : tb111 156 = some (wkIn spRStops) := rfl
theorem tb111_ok : TabOK Tryz.prog rt0 tb111 := (tabOf_cons (by kernel_rfl) sat_spec_reader_pick (tabOf_cons (by kernel_rfl) sat_spec_reader_one (tabOf_cons (by kernel_rfl) sat_spec_randomColor (tabOf_cons (by kernel_rfl) sat_spec_anyColor (tabOf_cons (by kernel_rfl) sat_spec_randomStops tabOf_nil)))))
set_option maxHeartbeats 4000000 in
theorem sat_spec_anyStops_0 : Sat Tryz.prog rt0 111 (wkOut spAStops) := by
  refine fn_sat hm ttok (tab := tb111) tb111_ok Tryz.func111 (c := Tryz.f111.body.getD .skip) (by kernel_rfl) (ts := [.tmp 2]) (by kernel_rfl) Tryz.ntmps111 (sq := fun _ => true) (by kernel_rfl) ?_
  intro args ins pk hpre0 hpk
  obtain ⟨rfl, hpre0⟩ := hpre0
  obtain ⟨⟨⟩, rfl, hpre, hdec⟩ := famPre_ex hpre0
  clear hpre0 hdec
  try simp only [spAStops_pre] at hpre
  replace hpk : pk + 45 ≤ pickLimit := hpk
  refine ⟨Nat.le_of_ble_eq_true rfl, ?_⟩
  simp (config := { maxSteps := 1000000 }) only [go_sem, ↓ifP_true, ↓ifP_false, ↓ifP_not, Nat.reduceLT, Nat.reduceAdd, Nat.reduceBEq, Nat.reduceSub, Nat.reduceLeDiff, Nat.reduceEqDiff, Nat.reduceMul, Int.reduceToNat, Int.reduceEq, Int.reduceLT, Int.reduceLE, Int.reduceAdd, Int.reduceSub, Int.reduceMul, reduceCtorEq, cond_true, cond_false, forall_eq', forall_eq, forall_const, implies_true, if_true, if_false, exists_eq_left', exists_eq', exists_eq, ne_eq, Tryz.f111, tb111_90, tb111_46, tb111_124, tb111_125, tb111_156, spAStops_q, spAStops_A, spAStops_pre, spAStops_post, spPick_q, spPick_A, spPick_pre, spPick_post, spOne_q, spOne_A, spOne_pre, spOne_post, spRCol_q, spRCol_A, spRCol_pre, spRCol_post, spACol_q, spACol_A, spACol_pre, spACol_post, spRStops_q, spRStops_A, spRStops_pre, spRStops_post, Picks]
  repeat' (first | apply And.intro | (intro _) | omega | assumption | with_reducible rfl)
  all_goals (first | (exact ⟨_, rfl, rfl, by omega⟩; done) | (exact ⟨[], rfl, rfl, by decide⟩; done) | (exact ex_set _ _ (by assumption); done) | (exact ex_snoc _ _ (by assumption); done))
theorem sat_spec_anyStops : Sat Tryz.prog rt0 111 (wkIn spAStops) := sat_in (sat_out sat_spec_anyStops_0)
end Go.Proofs.YtkhplopcjkkejaaGreat
end
section
set_option maxRecDepth 100000
set_option linter.unusedSimpArgs false
set_option linter.unusedVariables false
namespace Go.Proofs.YtkhplopcjkkejaaGreat
open Go Go.VE
theorem okF_mk {p : List Verb} {rl : Int} {pn : Pnt} (h : vPath p = true) (h2 : pn.ss.length ≤ 5) : okF ⟨p, rl, pn⟩ := ⟨by have := vPath_len h; dsimp only; omega, by have := vPath_pts h; dsimp only; omega, by dsimp only; omega⟩
theorem okF_nil {rl : Int} {pn : Pnt} (h2 : pn.ss.length ≤ 5) : okF ⟨[], rl, pn⟩ := ⟨by simp, by simp [nPts], by dsimp only; omega⟩
theorem okF_rl {f : Fil} (h : okF f) (rl : Int) : okF ⟨f.p, rl, f.pn⟩ := ⟨h.p, h.n, h.s⟩
theorem okF_path {f : Fil} (h : okF f) {p : List Verb} (h1 : p.length ≤ 31) (h2 : nPts p ≤ 100) : okF ⟨p, f.rl, f.pn⟩ := ⟨by dsimp only; omega, by dsimp only; omega, h.s⟩
theorem okF_ss {f : Fil} (h : okF f) {l : List Stp} (h1 : l.length ≤ 5) : okF ⟨f.p, f.rl, ⟨f.pn.f, f.pn.t, l⟩⟩ := ⟨h.p, h.n, by dsimp only; omega⟩
structure okScn (s : Scn) : Prop where
  len : s.fs.length ≤ 5
  fs : okFs s.fs
  w : 0 ≤ s.w ∧ s.w ≤ 13
  h : 0 ≤ s.h ∧ s.h ≤ 13
theorem okScn_w {s : Scn} (h : okScn s) {w : Int} (hw : 0 ≤ w ∧ w ≤ 13) : okScn ⟨w, s.h, s.fs⟩ := ⟨h.len, h.fs, hw, h.h⟩
theorem ex_pnt {l : List Stp} (f t : Pt) (h : l.length ≤ 4) : ∃ p : Pnt, ptC f ++ (ptC t ++ [C.sl false (List.map stC l)]) = pnC p ∧ p.ss.length ≤ 5 := ⟨⟨f, t, l⟩, rfl, by dsimp only; omega⟩
theorem ex_pnt0 {l : List Stp} (h : l.length ≤ 4) : ∃ p : Pnt, [C.v (.int .i64 0), C.v (.int .i64 0), C.v (.int .i64 0), C.v (.int .i64 0), C.sl false (List.map stC l)] = pnC p ∧ p.ss.length ≤ 5 := ⟨⟨⟨0, 0⟩, ⟨0, 0⟩, l⟩, rfl, by dsimp only; omega⟩
def spRPnt_A : Unit → List AV
  | () => [.c .rdr]
def spRPnt_pre : Unit → Prop
  | () => True
def spRPnt_post : Unit → AV → List Box → Prop
  | (), r, bs => ∃ p : Pnt, r = .agg (pnC p) ∧ bs = [] ∧ p.ss.length ≤ 5
def spRPnt : VE.Spec := famSpecS spRPnt_A d_r spRPnt_pre spRPnt_post 50 false
theorem spRPnt_q : spRPnt.flat = false ∧ spRPnt.mt = [] ∧ spRPnt.shut = true ∧ spRPnt.cost = 50 ∧ (∀ a i, spRPnt.pre a i = (i = [] ∧ famPre d_r spRPnt_A spRPnt_pre a)) ∧ ∀ a i r b, spRPnt.post a i r b = (famPost d_r spRPnt_post a r b) := ⟨rfl, rfl, rfl, rfl, fun _ _ => rfl, fun _ _ _ _ => rfl⟩
def tb136 : Nat → Option VE.Spec := tabOf [(90, wkIn spPick), (156, wkIn spRStops), (154, wkIn spSome)]
theorem tb136_90 : tb136 90 = some (wkIn spPick) := rfl
theorem tb136_156 : tb136 156 = some (wkIn spRStops) := rfl
theorem tb136_154 : tb136 154 = some (wkIn spSome) := rfl
theorem tb136_ok : TabOK Tryz.prog rt0 tb136 := (tabOf_cons (by kernel_rfl) sat_spec_reader_pick (tabOf_cons (by kernel_rfl) sat_spec_randomStops (tabOf_cons (by kernel_rfl) sat_spec_somePoint tabOf_nil)))
set_option maxHeartbeats 4000000 in
theorem sat_spec_randomPaint_0 : Sat Tryz.prog rt0 136 (wkOut spRPnt) := by
  refine fn_sat hm ttok (tab := tb136) tb136_ok Tryz.func136 (c := Tryz.f136.body.getD .skip) (by kernel_rfl) (ts := [.cell 2 38]) (by kernel_rfl) Tryz.ntmps136 (sq := fun _ => true) (by kernel_rfl) ?_
  intro args ins pk hpre0 hpk
  obtain ⟨rfl, hpre0⟩ := hpre0
  obtain ⟨⟨⟩, rfl, hpre, hdec⟩ := famPre_ex hpre0
  clear hpre0 hdec
  try simp only [spRPnt_pre] at hpre
  replace hpk : pk + 50 ≤ pickLimit := hpk
  refine ⟨Nat.le_of_ble_eq_true rfl, ?_⟩
  simp (config := { maxSteps := 1000000 }) only [go_sem, ↓ifP_true, ↓ifP_false, ↓ifP_not, Nat.reduceLT, Nat.reduceAdd, Nat.reduceBEq, Nat.reduceSub, Nat.reduceLeDiff, Nat.reduceEqDiff, Nat.reduceMul, Int.reduceToNat, Int.reduceEq, Int.reduceLT, Int.reduceLE, Int.reduceAdd, Int.reduceSub, Int.reduceMul, reduceCtorEq, cond_true, cond_false, forall_eq', forall_eq, forall_const, implies_true, if_true, if_false, exists_eq_left', exists_eq', exists_eq, ne_eq, Tryz.f136, tb136_90, tb136_156, tb136_154, spRPnt_q, spRPnt_A, spRPnt_pre, spRPnt_post, spPick_q, spPick_A, spPick_pre, spPick_post, spRStops_q, spRStops_A, spRStops_pre, spRStops_post, spSome_q, spSome_A, spSome_pre, spSome_post, Picks]
  repeat' (first | apply And.intro | (intro _) | omega | assumption | with_reducible rfl)
  all_goals (first | (rfl; done) | (exact ex_pnt _ _ (by assumption); done) | (exact ex_pnt0 (by assumption); done) | ((simp only [go_sem]; done); done) | ((simp (config := { maxSteps := 1000000 }) only [go_sem, ↓ifP_true, ↓ifP_false, ↓ifP_not, Nat.reduceLT, Nat.reduceAdd, Nat.reduceBEq, Nat.reduceSub, Nat.reduceLeDiff, Nat.reduceEqDiff, Nat.reduceMul, Int.reduceToNat, Int.reduceEq, Int.reduceLT, Int.reduceLE, Int.reduceAdd, Int.reduceSub, Int.reduceMul, reduceCtorEq, cond_true, cond_false, forall_eq', forall_eq, forall_const, implies_true, if_true, if_false, exists_eq_left', exists_eq', exists_eq, ne_eq]; done); done))
theorem sat_spec_randomPaint : Sat Tryz.prog rt0 136 (wkIn spRPnt) := sat_in (sat_out sat_spec_randomPaint_0)
end Go.Proofs.YtkhplopcjkkejaaGreat
end
section
set_option maxRecDepth 100000
set_option linter.unusedSimpArgs false
set_option linter.unusedVariables false
namespace Go.Proofs.YtkhplopcjkkejaaGreat
open Go Go.VE
def spRFil_A : Unit → List AV
  | () => [.c .rdr]
def spRFil_pre : Unit → Prop
  | () => True
def spRFil_post : Unit → AV → List Box → Prop
  | (), r, bs => ∃ f : Fil, r = .agg (flC f) ∧ bs = [] ∧ okF f
def spRFil : VE.Spec := famSpecS spRFil_A d_r spRFil_pre spRFil_post 200 false
theorem spRFil_q : spRFil.flat = false ∧ spRFil.mt = [] ∧ spRFil.shut = true ∧ spRFil.cost = 200 ∧ (∀ a i, spRFil.pre a i = (i = [] ∧ famPre d_r spRFil_A spRFil_pre a)) ∧ ∀ a i r b, spRFil.post a i r b = (famPost d_r spRFil_post a r b) := ⟨rfl, rfl, rfl, rfl, fun _ _ => rfl, fun _ _ _ _ => rfl⟩
def tb89 : Nat → Option VE.Spec := tabOf [(90, wkIn spPick), (135, wkIn spRPath), (93, wkIn spRings), (119, wkIn spVRings), (136, wkIn spRPnt)]
theorem tb89_90 : tb89 90 = some (wkIn spPick) := rfl
theorem tb89_135 : tb89 135 = some (wkIn spRPath) := rfl
theorem tb89_93 : tb89 93 = some (wkIn spRings) := rfl
theorem tb89_119 : tb89 119 = some (wkIn spVRings) := rfl
theorem tb89_136 : tb89 136 = some (wkIn spRPnt) := rfl
theorem tb89_ok : TabOK Tryz.prog rt0 tb89 := (tabOf_cons (by kernel_rfl) sat_spec_reader_pick (tabOf_cons (by kernel_rfl) sat_spec_randomPath (tabOf_cons (by kernel_rfl) sat_spec_rings (tabOf_cons (by kernel_rfl) sat_spec_validRings (tabOf_cons (by kernel_rfl) sat_spec_randomPaint tabOf_nil)))))
set_option maxHeartbeats 4000000 in
theorem sat_spec_randomFill_0 : Sat Tryz.prog rt0 89 (wkOut spRFil) := by
  refine fn_sat hm ttok (tab := tb89) tb89_ok Tryz.func89 (c := Tryz.f89.body.getD .skip) (by kernel_rfl) (ts := [.cell 2 41]) (by kernel_rfl) Tryz.ntmps89 (sq := fun _ => true) (by kernel_rfl) ?_
  intro args ins pk hpre0 hpk
  obtain ⟨rfl, hpre0⟩ := hpre0
  obtain ⟨⟨⟩, rfl, hpre, hdec⟩ := famPre_ex hpre0
  clear hpre0 hdec
  try simp only [spRFil_pre] at hpre
  replace hpk : pk + 200 ≤ pickLimit := hpk
  refine ⟨Nat.le_of_ble_eq_true rfl, ?_⟩
  simp (config := { maxSteps := 1000000 }) only [go_sem, ↓ifP_true, ↓ifP_false, ↓ifP_not, Nat.reduceLT, Nat.reduceAdd, Nat.reduceBEq, Nat.reduceSub, Nat.reduceLeDiff, Nat.reduceEqDiff, Nat.reduceMul, Int.reduceToNat, Int.reduceEq, Int.reduceLT, Int.reduceLE, Int.reduceAdd, Int.reduceSub, Int.reduceMul, reduceCtorEq, cond_true, cond_false, forall_eq', forall_eq, forall_const, implies_true, if_true, if_false, exists_eq_left', exists_eq', exists_eq, ne_eq, Tryz.f89, tb89_90, tb89_135, tb89_93, tb89_119, tb89_136, spRFil_q, spRFil_A, spRFil_pre, spRFil_post, spPick_q, spPick_A, spPick_pre, spPick_post, spRPath_q, spRPath_A, spRPath_pre, spRPath_post, spRings_q, spRings_A, spRings_pre, spRings_post, spVRings_q, spVRings_A, spVRings_pre, spVRings_post, spRPnt_q, spRPnt_A, spRPnt_pre, spRPnt_post, Picks]
  repeat' (first | apply And.intro | (intro _) | omega | assumption | with_reducible rfl)
  all_goals (first | (exact (rings_tot2 ‹vPath _ = true›).1; done) | (exact (rings_tot2 ‹vPath _ = true›).2; done) | (exact okF_mk ‹vPath _ = true› ‹_›; done) | (exact ⟨⟨[], _, _⟩, rfl, okF_nil ‹_›⟩; done))
theorem sat_spec_randomFill : Sat Tryz.prog rt0 89 (wkIn spRFil) := sat_in (sat_out sat_spec_randomFill_0)
end Go.Proofs.YtkhplopcjkkejaaGreat
end
section
set_option maxRecDepth 100000
set_option linter.unusedSimpArgs false
set_option linter.unusedVariables false
namespace Go.Proofs.YtkhplopcjkkejaaGreat
open Go Go.VE
theorem ex_fss {f : Fil} (h : okF f) {l : List Stp} (hl : l.length ≤ 5) : ∃ g : Fil, C.sl false (List.map vbC f.p) :: C.v (.int .i64 f.rl) :: wkCs (edC ⟨f.pn.f, f.pn.t⟩ ++ [C.sl false (List.map stC l)]) = flC g ∧ okF g := by
  refine ⟨⟨f.p, f.rl, ⟨f.pn.f, f.pn.t, l⟩⟩, ?_, okF_ss h hl⟩
  have e : wkCs (edC ⟨f.pn.f, f.pn.t⟩ ++ [C.sl false (List.map stC l)]) = edC ⟨f.pn.f, f.pn.t⟩ ++ [C.sl false (List.map stC l)] := by simp [edC, ptC, wkCs, wkC, stC_wks]
  rw [e]; rfl
def spAFil_A : Unit → List AV
  | () => [.c .rdr]
def spAFil_pre : Unit → Prop
  | () => True
def spAFil_post : Unit → AV → List Box → Prop
  | (), r, bs => ∃ f : Fil, r = .agg (flC f) ∧ bs = [] ∧ okF f
def spAFil : VE.Spec := famSpecS spAFil_A d_r spAFil_pre spAFil_post 430 false
theorem spAFil_q : spAFil.flat = false ∧ spAFil.mt = [] ∧ spAFil.shut = true ∧ spAFil.cost = 430 ∧ (∀ a i, spAFil.pre a i = (i = [] ∧ famPre d_r spAFil_A spAFil_pre a)) ∧ ∀ a i r b, spAFil.post a i r b = (famPost d_r spAFil_post a r b) := ⟨rfl, rfl, rfl, rfl, fun _ _ => rfl, fun _ _ _ _ => rfl⟩
def tb69 : Nat → Option VE.Spec := tabOf [(90, wkIn spPick), (46, wkIn spOne), (89, wkIn spRFil), (110, wkIn spAPath), (111, wkIn spAStops)]
theorem tb69_90 : tb69 90 = some (wkIn spPick) := rfl
theorem tb69_46 : tb69 46 = some (wkIn spOne) := rfl
theorem tb69_89 : tb69 89 = some (wkIn spRFil) := rfl
theorem tb69_110 : tb69 110 = some (wkIn spAPath) := rfl
theorem tb69_111 : tb69 111 = some (wkIn spAStops) := rfl
theorem tb69_ok : TabOK Tryz.prog rt0 tb69 := (tabOf_cons (by kernel_rfl) sat_spec_reader_pick (tabOf_cons (by kernel_rfl) sat_spec_reader_one (tabOf_cons (by kernel_rfl) sat_spec_randomFill (tabOf_cons (by kernel_rfl) sat_spec_anyPath (tabOf_cons (by kernel_rfl) sat_spec_anyStops tabOf_nil)))))
set_option maxHeartbeats 4000000 in
theorem sat_spec_anyFill_0 : Sat Tryz.prog rt0 69 (wkOut spAFil) := by
  refine fn_sat hm ttok (tab := tb69) tb69_ok Tryz.func69 (c := Tryz.f69.body.getD .skip) (by kernel_rfl) (ts := [.cell 2 41]) (by kernel_rfl) Tryz.ntmps69 (sq := fun _ => true) (by kernel_rfl) ?_
  intro args ins pk hpre0 hpk
  obtain ⟨rfl, hpre0⟩ := hpre0
  obtain ⟨⟨⟩, rfl, hpre, hdec⟩ := famPre_ex hpre0
  clear hpre0 hdec
  try simp only [spAFil_pre] at hpre
  replace hpk : pk + 430 ≤ pickLimit := hpk
  refine ⟨Nat.le_of_ble_eq_true rfl, ?_⟩
  simp (config := { maxSteps := 1000000 }) only [go_sem, ↓ifP_true, ↓ifP_false, ↓ifP_not, Nat.reduceLT, Nat.reduceAdd, Nat.reduceBEq, Nat.reduceSub, Nat.reduceLeDiff, Nat.reduceEqDiff, Nat.reduceMul, Int.reduceToNat, Int.reduceEq, Int.reduceLT, Int.reduceLE, Int.reduceAdd, Int.reduceSub, Int.reduceMul, reduceCtorEq, cond_true, cond_false, forall_eq', forall_eq, forall_const, implies_true, if_true, if_false, exists_eq_left', exists_eq', exists_eq, ne_eq, Tryz.f69, tb69_90, tb69_46, tb69_89, tb69_110, tb69_111, spAFil_q, spAFil_A, spAFil_pre, spAFil_post, spPick_q, spPick_A, spPick_pre, spPick_post, spOne_q, spOne_A, spOne_pre, spOne_post, spRFil_q, spRFil_A, spRFil_pre, spRFil_post, spAPath_q, spAPath_A, spAPath_pre, spAPath_post, spAStops_q, spAStops_A, spAStops_pre, spAStops_post, Picks]
  repeat' (first | apply And.intro | (intro _) | omega | assumption | with_reducible rfl)
  all_goals (first | (rfl; done) | (assumption; done) | (exact ⟨⟨_, _, _⟩, rfl, okF_rl ‹okF _› _⟩; done) | (exact ⟨⟨_, _, _⟩, rfl, okF_path ‹okF _› ‹_› ‹_›⟩; done) | (exact ⟨⟨_, _, ⟨_, _, _⟩⟩, rfl, okF_ss ‹okF _› ‹_›⟩; done) | (exact okF_rl ‹okF _› _; done) | (exact okF_path ‹okF _› ‹_› ‹_›; done) | (exact okF_ss ‹okF _› ‹_›; done) | (exact ex_fss ‹okF _› ‹_›; done) | ((simp (config := { maxSteps := 1000000 }) only [go_sem, ↓ifP_true, ↓ifP_false, ↓ifP_not, Nat.reduceLT, Nat.reduceAdd, Nat.reduceBEq, Nat.reduceSub, Nat.reduceLeDiff, Nat.reduceEqDiff, Nat.reduceMul, Int.reduceToNat, Int.reduceEq, Int.reduceLT, Int.reduceLE, Int.reduceAdd, Int.reduceSub, Int.reduceMul, reduceCtorEq, cond_true, cond_false, forall_eq', forall_eq, forall_const, implies_true, if_true, if_false, exists_eq_left', exists_eq', exists_eq, ne_eq]; done); done))
theorem sat_spec_anyFill : Sat Tryz.prog rt0 69 (wkIn spAFil) := sat_in (sat_out sat_spec_anyFill_0)
end Go.Proofs.YtkhplopcjkkejaaGreat
end
section
set_option maxRecDepth 100000
set_option linter.unusedSimpArgs false
set_option linter.unusedVariables false
namespace Go.Proofs.YtkhplopcjkkejaaGreat
open Go Go.VE
theorem ex_scn {o : List Fil} {f : Fil} {w h : Int} (ho : okFs o) (hl : o.length ≤ 4) (hf : okF f) (hw : 0 ≤ w ∧ w ≤ 13) (hh : 0 ≤ h ∧ h ≤ 13) : ∃ c : Scn, [C.v (.int .i64 w), C.v (.int .i64 h), C.sl false (List.map flC o ++ [flC f])] = scC c ∧ okScn c :=
  ⟨⟨w, h, o ++ [f]⟩, by simp [scC], ⟨by simp; omega, okFs_snoc ho (by omega) hf, hw, hh⟩⟩
def spAScn_A : Unit → List AV
  | () => [.c .rdr]
def spAScn_pre : Unit → Prop
  | () => True
def spAScn_post : Unit → AV → List Box → Prop
  | (), r, bs => ∃ c : Scn, r = .agg (scC c) ∧ bs = [] ∧ okScn c
def spAScn : VE.Spec := famSpecS spAScn_A d_r spAScn_pre spAScn_post 1300 false
theorem spAScn_q : spAScn.flat = false ∧ spAScn.mt = [] ∧ spAScn.shut = true ∧ spAScn.cost = 1300 ∧ (∀ a i, spAScn.pre a i = (i = [] ∧ famPre d_r spAScn_A spAScn_pre a)) ∧ ∀ a i r b, spAScn.post a i r b = (famPost d_r spAScn_post a r b) := ⟨rfl, rfl, rfl, rfl, fun _ _ => rfl, fun _ _ _ _ => rfl⟩
def tb45 : Nat → Option VE.Spec := tabOf [(90, wkIn spPick), (46, wkIn spOne), (89, wkIn spRFil), (69, wkIn spAFil)]
theorem tb45_90 : tb45 90 = some (wkIn spPick) := rfl
theorem tb45_46 : tb45 46 = some (wkIn spOne) := rfl
theorem tb45_89 : tb45 89 = some (wkIn spRFil) := rfl
theorem tb45_69 : tb45 69 = some (wkIn spAFil) := rfl
theorem tb45_ok : TabOK Tryz.prog rt0 tb45 := (tabOf_cons (by kernel_rfl) sat_spec_reader_pick (tabOf_cons (by kernel_rfl) sat_spec_reader_one (tabOf_cons (by kernel_rfl) sat_spec_randomFill (tabOf_cons (by kernel_rfl) sat_spec_anyFill tabOf_nil))))
set_option maxHeartbeats 4000000 in
theorem sat_spec_anyScene_0 : Sat Tryz.prog rt0 45 (wkOut spAScn) := by
  refine fn_sat hm ttok (tab := tb45) tb45_ok Tryz.func45 (c := Tryz.f45.body.getD .skip) (by kernel_rfl) (ts := [.cell 2 25]) (by kernel_rfl) Tryz.ntmps45 (sq := fun _ => true) (by kernel_rfl) ?_
  intro args ins pk hpre0 hpk
  obtain ⟨rfl, hpre0⟩ := hpre0
  obtain ⟨⟨⟩, rfl, hpre, hdec⟩ := famPre_ex hpre0
  clear hpre0 hdec
  try simp only [spAScn_pre] at hpre
  replace hpk : pk + 1300 ≤ pickLimit := hpk
  refine ⟨Nat.le_of_ble_eq_true rfl, ?_⟩
  simp (config := { maxSteps := 1000000 }) only [go_sem, ↓ifP_true, ↓ifP_false, ↓ifP_not, Nat.reduceLT, Nat.reduceAdd, Nat.reduceBEq, Nat.reduceSub, Nat.reduceLeDiff, Nat.reduceEqDiff, Nat.reduceMul, Int.reduceToNat, Int.reduceEq, Int.reduceLT, Int.reduceLE, Int.reduceAdd, Int.reduceSub, Int.reduceMul, reduceCtorEq, cond_true, cond_false, forall_eq', forall_eq, forall_const, implies_true, if_true, if_false, exists_eq_left', exists_eq', exists_eq, ne_eq, Tryz.f45, tb45_90, tb45_46, tb45_89, tb45_69, spAScn_q, spAScn_A, spAScn_pre, spAScn_post, spPick_q, spPick_A, spPick_pre, spPick_post, spOne_q, spOne_A, spOne_pre, spOne_post, spRFil_q, spRFil_A, spRFil_pre, spRFil_post, spAFil_q, spAFil_A, spAFil_pre, spAFil_post, Picks]
  repeat' (first | apply And.intro | (intro _) | omega | assumption | with_reducible rfl)
  all_goals try (simp only [List.mem_cons, List.not_mem_nil, or_false] at *)
  any_goals
    refine loopS (α := (List Fil) × Int) false [1, 4, 5, 6, 7, 8, 9, 10, 11, 12, 13, 14, 15, 16, 17, 18, 19, 20, 21, 22, 23, 24, 25, 28, 34] (fun σ => [gId (σ.get 4)]) (fun σ x => [(4, .c (.own (gId (σ.get 4)) (x.1).length false)), (5, I x.2)]) (fun σ x => [(gId (σ.get 4), some ⟨(x.1).map flC, 7, 41, true, false⟩)]) (fun (o, n) => 200 * o.length) (fun σ => (gL flCd σ (σ.get 4), gI (σ.get 5))) (fun σ τ => [(gId (σ.get 4), gId (τ.get 4))]) (fun (o, n) => (0 ≤ n ∧ o.length + n ≤ 4) ∧ okFs o) (fun (o, n) => n.toNat) ⟨by (simp (config := { maxSteps := 1000000 }) only [go_sem, ↓ifP_true, ↓ifP_false, ↓ifP_not, Nat.reduceLT, Nat.reduceAdd, Nat.reduceBEq, Nat.reduceSub, Nat.reduceLeDiff, Nat.reduceEqDiff, Nat.reduceMul, Int.reduceToNat, Int.reduceEq, Int.reduceLT, Int.reduceLE, Int.reduceAdd, Int.reduceSub, Int.reduceMul, reduceCtorEq, cond_true, cond_false, forall_eq', forall_eq, forall_const, implies_true, if_true, if_false, exists_eq_left', exists_eq', exists_eq, ne_eq, Tryz.f45, tb45_90, tb45_46, tb45_89, tb45_69, spAScn_q, spAScn_A, spAScn_pre, spAScn_post, spPick_q, spPick_A, spPick_pre, spPick_post, spOne_q, spOne_A, spOne_pre, spOne_post, spRFil_q, spRFil_A, spRFil_pre, spRFil_post, spAFil_q, spAFil_A, spAFil_pre, spAFil_post, Picks]; (repeat' (first | apply And.intro | (intro _) | omega | assumption | with_reducible rfl)); all_goals (first | omega | exact okFs_nil)), ?_⟩
    rintro ⟨o, n⟩ hinv
    try dsimp only at hinv
    simp (config := { maxSteps := 1000000 }) only [go_sem, ↓ifP_true, ↓ifP_false, ↓ifP_not, Nat.reduceLT, Nat.reduceAdd, Nat.reduceBEq, Nat.reduceSub, Nat.reduceLeDiff, Nat.reduceEqDiff, Nat.reduceMul, Int.reduceToNat, Int.reduceEq, Int.reduceLT, Int.reduceLE, Int.reduceAdd, Int.reduceSub, Int.reduceMul, reduceCtorEq, cond_true, cond_false, forall_eq', forall_eq, forall_const, implies_true, if_true, if_false, exists_eq_left', exists_eq', exists_eq, ne_eq, Tryz.f45, tb45_90, tb45_46, tb45_89, tb45_69, spAScn_q, spAScn_A, spAScn_pre, spAScn_post, spPick_q, spPick_A, spPick_pre, spPick_post, spOne_q, spOne_A, spOne_pre, spOne_post, spRFil_q, spRFil_A, spRFil_pre, spRFil_post, spAFil_q, spAFil_A, spAFil_pre, spAFil_post, Picks]
    repeat' (first | apply And.intro | (intro _) | omega | assumption | with_reducible rfl)
  
  all_goals (first | (omega; done) | (exact okFs_snoc hinv.2 (by omega) ‹okF _›; done) | ((refine ex_scn hinv.2 (by omega) ‹okF _› ?_ ?_ <;> omega); done) | ((refine ⟨by dsimp only; omega, hinv.2, ?_, ?_⟩ <;> (try simp only [List.mem_cons, List.not_mem_nil, or_false] at *) <;> (try dsimp only) <;> omega); done))
theorem sat_spec_anyScene : Sat Tryz.prog rt0 45 (wkIn spAScn) := sat_in (sat_out sat_spec_anyScene_0)
end Go.Proofs.YtkhplopcjkkejaaGreat
end
section
set_option maxRecDepth 100000
set_option linter.unusedSimpArgs false
set_option linter.unusedVariables false
namespace Go.Proofs.YtkhplopcjkkejaaGreat
open Go Go.VE
def spDScn_A : (List UInt8) → List AV
  | code => [.c (.sl false (byC code))]
def spDScn_pre : (List UInt8) → Prop
  | code => code.length ≤ 1048576
def spDScn_post : (List UInt8) → AV → List Box → Prop
  | code, r, bs => ∃ c : Scn, r = .agg (scC c) ∧ bs = [] ∧ okScn c
def spDScn : VE.Spec := famSpecS spDScn_A d_ly spDScn_pre spDScn_post 1310 false
theorem spDScn_q : spDScn.flat = false ∧ spDScn.mt = [] ∧ spDScn.shut = true ∧ spDScn.cost = 1310 ∧ (∀ a i, spDScn.pre a i = (i = [] ∧ famPre d_ly spDScn_A spDScn_pre a)) ∧ ∀ a i r b, spDScn.post a i r b = (famPost d_ly spDScn_post a r b) := ⟨rfl, rfl, rfl, rfl, fun _ _ => rfl, fun _ _ _ _ => rfl⟩
def tb24 : Nat → Option VE.Spec := tabOf [(44, wkIn spNew), (45, wkIn spAScn)]
theorem tb24_44 : tb24 44 = some (wkIn spNew) := rfl
theorem tb24_45 : tb24 45 = some (wkIn spAScn) := rfl
theorem tb24_ok : TabOK Tryz.prog rt0 tb24 := (tabOf_cons (by kernel_rfl) sat_spec_newReader (tabOf_cons (by kernel_rfl) sat_spec_anyScene tabOf_nil))
set_option maxHeartbeats 4000000 in
theorem sat_spec_DrawDrawScene_0 : Sat Tryz.prog rt0 24 (wkOut spDScn) := by
  refine fn_sat hm ttok (tab := tb24) tb24_ok Tryz.func24 (c := Tryz.f24.body.getD .skip) (by kernel_rfl) (ts := [.cell 2 25]) (by kernel_rfl) Tryz.ntmps24 (sq := fun _ => true) (by kernel_rfl) ?_
  intro args ins pk hpre0 hpk
  obtain ⟨rfl, hpre0⟩ := hpre0
  obtain ⟨code, rfl, hpre, hdec⟩ := famPre_ex hpre0
  clear hpre0 hdec
  try simp only [spDScn_pre] at hpre
  replace hpk : pk + 1310 ≤ pickLimit := hpk
  refine ⟨Nat.le_of_ble_eq_true rfl, ?_⟩
  simp (config := { maxSteps := 1000000 }) only [go_sem, ↓ifP_true, ↓ifP_false, ↓ifP_not, Nat.reduceLT, Nat.reduceAdd, Nat.reduceBEq, Nat.reduceSub, Nat.reduceLeDiff, Nat.reduceEqDiff, Nat.reduceMul, Int.reduceToNat, Int.reduceEq, Int.reduceLT, Int.reduceLE, Int.reduceAdd, Int.reduceSub, Int.reduceMul, reduceCtorEq, cond_true, cond_false, forall_eq', forall_eq, forall_const, implies_true, if_true, if_false, exists_eq_left', exists_eq', exists_eq, ne_eq, Tryz.f24, tb24_44, tb24_45, spDScn_q, spDScn_A, spDScn_pre, spDScn_post, spNew_q, spAScn_q, spAScn_A, spAScn_pre, spAScn_post]
  repeat' (first | apply And.intro | (intro _) | omega | assumption | with_reducible rfl)
  all_goals (first | (exact ⟨_, _, rfl, rfl, hpre⟩; done) | (assumption; done) | (exact ⟨_, rfl, ‹okScn _›⟩; done))
theorem sat_spec_DrawDrawScene : Sat Tryz.prog rt0 24 (wkIn spDScn) := sat_in (sat_out sat_spec_DrawDrawScene_0)
end Go.Proofs.YtkhplopcjkkejaaGreat
end
