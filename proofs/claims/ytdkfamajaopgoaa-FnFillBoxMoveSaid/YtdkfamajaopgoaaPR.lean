/- Contracts of functions of the program vectorraster, each proved for all states that fit its description. No conditions. -/
import Derived.Test.YtdkfamajaopgoaaPQ
import Derived.Test.YtdkfamajaopgoaaPE
import Derived.Test.YtdkfamajaopgoaaPD
import Derived.Test.YtdkfamajaopgoaaPH
set_option linter.unusedSimpArgs false
set_option linter.unusedVariables false
section
set_option maxRecDepth 100000
set_option linter.unusedSimpArgs false
set_option linter.unusedVariables false
namespace Go.Proofs.Ytdkfamajaopgoaa
open Go Go.VE
def rnd (a b : Int) : Int := (2 * a + b) / (2 * b)
def plainC (r g b a : Int) : Colr := ⟨rnd (r * a) 255, rnd (g * a) 255, rnd (b * a) 255, a⟩
def spRnd_A : Int × Int → List AV
  | (a, b) => [I a, I b]
def spRnd_pre : Int × Int → Prop
  | (a, b) => 1 ≤ b ∧ b ≤ 1000000000000 ∧ -1000000000000 ≤ a ∧ a ≤ 1000000000000
def spRnd_post : Int × Int → AV → List Box → Prop
  | (a, b), r, bs => r = I (rnd a b) ∧ bs = []
def spRnd : VE.Spec := famSpec spRnd_A d_i_i spRnd_pre spRnd_post 0 true
theorem spRnd_q : spRnd.flat = true ∧ spRnd.mt = [] ∧ spRnd.shut = false ∧ spRnd.cost = 0 ∧ (∀ a i, spRnd.pre a i = (i = [] ∧ famPre d_i_i spRnd_A spRnd_pre a)) ∧ ∀ a i r b, spRnd.post a i r b = (famPost d_i_i spRnd_post a r b) := ⟨rfl, rfl, rfl, rfl, fun _ _ => rfl, fun _ _ _ _ => rfl⟩
def tb160 : Nat → Option VE.Spec := tabOf [(149, wkIn spFloor)]
theorem tb160_149 : tb160 149 = some (wkIn spFloor) := rfl
theorem tb160_ok : TabOK Try.prog rt0 tb160 := (tabOf_cons (by kernel_rfl) sat_spec_floorDiv tabOf_nil)
set_option maxHeartbeats 4000000 in
theorem sat_spec_nearest_0 : Sat Try.prog rt0 160 (wkOut spRnd) := by
  refine fn_sat hm ttok (tab := tb160) tb160_ok Try.func160 (c := Try.f160.body.getD .skip) (by kernel_rfl) (ts := [.tmp 4]) (by kernel_rfl) Try.ntmps160 (sq := fun _ => true) (by kernel_rfl) ?_
  intro args ins pk hpre0 hpk
  obtain ⟨rfl, hpre0⟩ := hpre0
  obtain ⟨⟨a, b⟩, rfl, hpre, hdec⟩ := famPre_ex hpre0
  clear hpre0 hdec
  try simp only [spRnd_pre] at hpre
  replace hpk : pk + 0 ≤ pickLimit := hpk
  refine ⟨Nat.le_of_ble_eq_true rfl, ?_⟩
  simp (config := { maxSteps := 1000000 }) only [go_sem, ↓ifP_true, ↓ifP_false, ↓ifP_not, Nat.reduceLT, Nat.reduceAdd, Nat.reduceBEq, Nat.reduceSub, Nat.reduceLeDiff, Nat.reduceEqDiff, Nat.reduceMul, Int.reduceToNat, Int.reduceEq, Int.reduceLT, Int.reduceLE, Int.reduceAdd, Int.reduceSub, Int.reduceMul, reduceCtorEq, cond_true, cond_false, forall_eq', forall_eq, forall_const, implies_true, if_true, if_false, exists_eq_left', exists_eq', exists_eq, ne_eq, Try.f160, tb160_149, spRnd_q, spRnd_A, spRnd_pre, spRnd_post, spFloor_q, spFloor_A, spFloor_pre, spFloor_post]
  repeat' (first | apply And.intro | (intro _) | omega | assumption | with_reducible rfl)
  all_goals (first | (rfl; done))
theorem sat_spec_nearest : Sat Try.prog rt0 160 (wkIn spRnd) := sat_in (sat_out sat_spec_nearest_0)
def spPlain_A : Int × Int × Int × Int → List AV
  | (e, g, b, a) => [I e, I g, I b, I a]
def spPlain_pre : Int × Int × Int × Int → Prop
  | (e, g, b, a) => (0 ≤ e ∧ e ≤ 1000) ∧ (0 ≤ g ∧ g ≤ 1000) ∧ (0 ≤ b ∧ b ≤ 1000) ∧ 0 ≤ a ∧ a ≤ 1000
def spPlain_post : Int × Int × Int × Int → AV → List Box → Prop
  | (e, g, b, a), r, bs => r = .agg (coC (plainC e g b a)) ∧ bs = []
def spPlain : VE.Spec := famSpec spPlain_A d_i_i_i_i spPlain_pre spPlain_post 0 true
theorem spPlain_q : spPlain.flat = true ∧ spPlain.mt = [] ∧ spPlain.shut = false ∧ spPlain.cost = 0 ∧ (∀ a i, spPlain.pre a i = (i = [] ∧ famPre d_i_i_i_i spPlain_A spPlain_pre a)) ∧ ∀ a i r b, spPlain.post a i r b = (famPost d_i_i_i_i spPlain_post a r b) := ⟨rfl, rfl, rfl, rfl, fun _ _ => rfl, fun _ _ _ _ => rfl⟩
def tb158 : Nat → Option VE.Spec := tabOf [(160, wkIn spRnd)]
theorem tb158_160 : tb158 160 = some (wkIn spRnd) := rfl
theorem tb158_ok : TabOK Try.prog rt0 tb158 := (tabOf_cons (by kernel_rfl) sat_spec_nearest tabOf_nil)
set_option maxHeartbeats 4000000 in
theorem sat_spec_plain_0 : Sat Try.prog rt0 158 (wkOut spPlain) := by
  refine fn_sat hm ttok (tab := tb158) tb158_ok Try.func158 (c := Try.f158.body.getD .skip) (by kernel_rfl) (ts := [.cell 8 137]) (by kernel_rfl) Try.ntmps158 (sq := fun _ => true) (by kernel_rfl) ?_
  intro args ins pk hpre0 hpk
  obtain ⟨rfl, hpre0⟩ := hpre0
  obtain ⟨⟨e, g, b, a⟩, rfl, hpre, hdec⟩ := famPre_ex hpre0
  clear hpre0 hdec
  try simp only [spPlain_pre] at hpre
  replace hpk : pk + 0 ≤ pickLimit := hpk
  refine ⟨Nat.le_of_ble_eq_true rfl, ?_⟩
  have m1 := mul_bd (m := 1000) (n := 1000) (show -1000 ≤ e by omega) (by omega) (show -1000 ≤ a by omega) (by omega)
  have m2 := mul_bd (m := 1000) (n := 1000) (show -1000 ≤ g by omega) (by omega) (show -1000 ≤ a by omega) (by omega)
  have m3 := mul_bd (m := 1000) (n := 1000) (show -1000 ≤ b by omega) (by omega) (show -1000 ≤ a by omega) (by omega)
  simp (config := { maxSteps := 1000000 }) only [go_sem, ↓ifP_true, ↓ifP_false, ↓ifP_not, Nat.reduceLT, Nat.reduceAdd, Nat.reduceBEq, Nat.reduceSub, Nat.reduceLeDiff, Nat.reduceEqDiff, Nat.reduceMul, Int.reduceToNat, Int.reduceEq, Int.reduceLT, Int.reduceLE, Int.reduceAdd, Int.reduceSub, Int.reduceMul, reduceCtorEq, cond_true, cond_false, forall_eq', forall_eq, forall_const, implies_true, if_true, if_false, exists_eq_left', exists_eq', exists_eq, ne_eq, Try.f158, tb158_160, spPlain_q, spPlain_A, spPlain_pre, spPlain_post, spRnd_q, spRnd_A, spRnd_pre, spRnd_post]
  repeat' (first | apply And.intro | (intro _) | omega | assumption | with_reducible rfl)
  all_goals (first | (rfl; done))
theorem sat_spec_plain : Sat Try.prog rt0 158 (wkIn spPlain) := sat_in (sat_out sat_spec_plain_0)
def spRCol_A : Unit → List AV
  | () => [.c .rdr]
def spRCol_pre : Unit → Prop
  | () => True
def spRCol_post : Unit → AV → List Box → Prop
  | (), r, bs => ∃ c : Colr, r = .agg (coC c) ∧ bs = [] ∧ 0 ≤ c.a ∧ c.a ≤ 255
def spRCol : VE.Spec := famSpec spRCol_A d_r spRCol_pre spRCol_post 4 false
theorem spRCol_q : spRCol.flat = false ∧ spRCol.mt = [] ∧ spRCol.shut = false ∧ spRCol.cost = 4 ∧ (∀ a i, spRCol.pre a i = (i = [] ∧ famPre d_r spRCol_A spRCol_pre a)) ∧ ∀ a i r b, spRCol.post a i r b = (famPost d_r spRCol_post a r b) := ⟨rfl, rfl, rfl, rfl, fun _ _ => rfl, fun _ _ _ _ => rfl⟩
def tb143 : Nat → Option VE.Spec := tabOf [(101, wkIn spPick), (102, wkIn spOne), (158, wkIn spPlain)]
theorem tb143_101 : tb143 101 = some (wkIn spPick) := rfl
theorem tb143_102 : tb143 102 = some (wkIn spOne) := rfl
theorem tb143_158 : tb143 158 = some (wkIn spPlain) := rfl
theorem tb143_ok : TabOK Try.prog rt0 tb143 := (tabOf_cons (by kernel_rfl) sat_spec_reader_pick (tabOf_cons (by kernel_rfl) sat_spec_reader_one (tabOf_cons (by kernel_rfl) sat_spec_plain tabOf_nil)))
set_option maxHeartbeats 4000000 in
theorem sat_spec_randomColor_0 : Sat Try.prog rt0 143 (wkOut spRCol) := by
  refine fn_sat hm ttok (tab := tb143) tb143_ok Try.func143 (c := Try.f143.body.getD .skip) (by kernel_rfl) (ts := [.cell 2 137]) (by kernel_rfl) Try.ntmps143 (sq := fun _ => true) (by kernel_rfl) ?_
  intro args ins pk hpre0 hpk
  obtain ⟨rfl, hpre0⟩ := hpre0
  obtain ⟨⟨⟩, rfl, hpre, hdec⟩ := famPre_ex hpre0
  clear hpre0 hdec
  try simp only [spRCol_pre] at hpre
  replace hpk : pk + 4 ≤ pickLimit := hpk
  refine ⟨Nat.le_of_ble_eq_true rfl, ?_⟩
  simp (config := { maxSteps := 1000000 }) only [go_sem, ↓ifP_true, ↓ifP_false, ↓ifP_not, Nat.reduceLT, Nat.reduceAdd, Nat.reduceBEq, Nat.reduceSub, Nat.reduceLeDiff, Nat.reduceEqDiff, Nat.reduceMul, Int.reduceToNat, Int.reduceEq, Int.reduceLT, Int.reduceLE, Int.reduceAdd, Int.reduceSub, Int.reduceMul, reduceCtorEq, cond_true, cond_false, forall_eq', forall_eq, forall_const, implies_true, if_true, if_false, exists_eq_left', exists_eq', exists_eq, ne_eq, Try.f143, tb143_101, tb143_102, tb143_158, spRCol_q, spRCol_A, spRCol_pre, spRCol_post, spPick_q, spPick_A, spPick_pre, spPick_post, spOne_q, spOne_A, spOne_pre, spOne_post, spPlain_q, spPlain_A, spPlain_pre, spPlain_post, Picks]
  repeat' (first | apply And.intro | (intro _) | omega | assumption | with_reducible rfl)
  all_goals (first | ((simp only [List.mem_cons, List.not_mem_nil, or_false, plainC] at *; omega); done))
theorem sat_spec_randomColor : Sat Try.prog rt0 143 (wkIn spRCol) := sat_in (sat_out sat_spec_randomColor_0)
def spACol_A : Unit → List AV
  | () => [.c .rdr]
def spACol_pre : Unit → Prop
  | () => True
def spACol_post : Unit → AV → List Box → Prop
  | (), r, bs => ∃ c : Colr, r = .agg (coC c) ∧ bs = []
def spACol : VE.Spec := famSpec spACol_A d_r spACol_pre spACol_post 6 false
theorem spACol_q : spACol.flat = false ∧ spACol.mt = [] ∧ spACol.shut = false ∧ spACol.cost = 6 ∧ (∀ a i, spACol.pre a i = (i = [] ∧ famPre d_r spACol_A spACol_pre a)) ∧ ∀ a i r b, spACol.post a i r b = (famPost d_r spACol_post a r b) := ⟨rfl, rfl, rfl, rfl, fun _ _ => rfl, fun _ _ _ _ => rfl⟩
def tb144 : Nat → Option VE.Spec := tabOf [(101, wkIn spPick), (102, wkIn spOne), (143, wkIn spRCol)]
theorem tb144_101 : tb144 101 = some (wkIn spPick) := rfl
theorem tb144_102 : tb144 102 = some (wkIn spOne) := rfl
theorem tb144_143 : tb144 143 = some (wkIn spRCol) := rfl
theorem tb144_ok : TabOK Try.prog rt0 tb144 := (tabOf_cons (by kernel_rfl) sat_spec_reader_pick (tabOf_cons (by kernel_rfl) sat_spec_reader_one (tabOf_cons (by kernel_rfl) sat_spec_randomColor tabOf_nil)))
set_option maxHeartbeats 4000000 in
theorem sat_spec_anyColor_0 : Sat Try.prog rt0 144 (wkOut spACol) := by
  refine fn_sat hm ttok (tab := tb144) tb144_ok Try.func144 (c := Try.f144.body.getD .skip) (by kernel_rfl) (ts := [.cell 2 137]) (by kernel_rfl) Try.ntmps144 (sq := fun _ => true) (by kernel_rfl) ?_
  intro args ins pk hpre0 hpk
  obtain ⟨rfl, hpre0⟩ := hpre0
  obtain ⟨⟨⟩, rfl, hpre, hdec⟩ := famPre_ex hpre0
  clear hpre0 hdec
  try simp only [spACol_pre] at hpre
  replace hpk : pk + 6 ≤ pickLimit := hpk
  refine ⟨Nat.le_of_ble_eq_true rfl, ?_⟩
  simp (config := { maxSteps := 1000000 }) only [go_sem, ↓ifP_true, ↓ifP_false, ↓ifP_not, Nat.reduceLT, Nat.reduceAdd, Nat.reduceBEq, Nat.reduceSub, Nat.reduceLeDiff, Nat.reduceEqDiff, Nat.reduceMul, Int.reduceToNat, Int.reduceEq, Int.reduceLT, Int.reduceLE, Int.reduceAdd, Int.reduceSub, Int.reduceMul, reduceCtorEq, cond_true, cond_false, forall_eq', forall_eq, forall_const, implies_true, if_true, if_false, exists_eq_left', exists_eq', exists_eq, ne_eq, Try.f144, tb144_101, tb144_102, tb144_143, spACol_q, spACol_A, spACol_pre, spACol_post, spPick_q, spPick_A, spPick_pre, spPick_post, spOne_q, spOne_A, spOne_pre, spOne_post, spRCol_q, spRCol_A, spRCol_pre, spRCol_post, Picks]
  repeat' (first | apply And.intro | (intro _) | omega | assumption | with_reducible rfl)
  all_goals (first | (exact ⟨⟨_, _, _, _⟩, (coC_mk _ _ _ _).symm⟩; done))
theorem sat_spec_anyColor : Sat Try.prog rt0 144 (wkIn spACol) := sat_in (sat_out sat_spec_anyColor_0)
end Go.Proofs.Ytdkfamajaopgoaa
end
section
set_option maxRecDepth 100000
set_option linter.unusedSimpArgs false
set_option linter.unusedVariables false
namespace Go.Proofs.Ytdkfamajaopgoaa
open Go Go.VE
def spRStops_A : Unit → List AV
  | () => [.c .rdr]
def spRStops_pre : Unit → Prop
  | () => True
def spRStops_post : Unit → AV → List Box → Prop
  | (), r, bs => ∃ l : List Stp, r = .c (.own 0 l.length false) ∧ bs = [⟨l.map stC, 5, 140, true, false⟩] ∧ 1 ≤ l.length ∧ l.length ≤ 4
def spRStops : VE.Spec := famSpec spRStops_A d_r spRStops_pre spRStops_post 30 false
theorem spRStops_q : spRStops.flat = false ∧ spRStops.mt = [] ∧ spRStops.shut = false ∧ spRStops.cost = 30 ∧ (∀ a i, spRStops.pre a i = (i = [] ∧ famPre d_r spRStops_A spRStops_pre a)) ∧ ∀ a i r b, spRStops.post a i r b = (famPost d_r spRStops_post a r b) := ⟨rfl, rfl, rfl, rfl, fun _ _ => rfl, fun _ _ _ _ => rfl⟩
def tb142 : Nat → Option VE.Spec := tabOf [(101, wkIn spPick), (102, wkIn spOne), (143, wkIn spRCol)]
theorem tb142_101 : tb142 101 = some (wkIn spPick) := rfl
theorem tb142_102 : tb142 102 = some (wkIn spOne) := rfl
theorem tb142_143 : tb142 143 = some (wkIn spRCol) := rfl
theorem tb142_ok : TabOK Try.prog rt0 tb142 := (tabOf_cons (by kernel_rfl) sat_spec_reader_pick (tabOf_cons (by kernel_rfl) sat_spec_reader_one (tabOf_cons (by kernel_rfl) sat_spec_randomColor tabOf_nil)))
set_option maxHeartbeats 4000000 in
theorem sat_spec_randomStops_0 : Sat Try.prog rt0 142 (wkOut spRStops) := by
  refine fn_sat hm ttok (tab := tb142) tb142_ok Try.func142 (c := Try.f142.body.getD .skip) (by kernel_rfl) (ts := [.tmp 2]) (by kernel_rfl) Try.ntmps142 (sq := fun _ => true) (by kernel_rfl) ?_
  intro args ins pk hpre0 hpk
  obtain ⟨rfl, hpre0⟩ := hpre0
  obtain ⟨⟨⟩, rfl, hpre, hdec⟩ := famPre_ex hpre0
  clear hpre0 hdec
  try simp only [spRStops_pre] at hpre
  replace hpk : pk + 30 ≤ pickLimit := hpk
  refine ⟨Nat.le_of_ble_eq_true rfl, ?_⟩
  simp (config := { maxSteps := 1000000 }) only [go_sem, ↓ifP_true, ↓ifP_false, ↓ifP_not, Nat.reduceLT, Nat.reduceAdd, Nat.reduceBEq, Nat.reduceSub, Nat.reduceLeDiff, Nat.reduceEqDiff, Nat.reduceMul, Int.reduceToNat, Int.reduceEq, Int.reduceLT, Int.reduceLE, Int.reduceAdd, Int.reduceSub, Int.reduceMul, reduceCtorEq, cond_true, cond_false, forall_eq', forall_eq, forall_const, implies_true, if_true, if_false, exists_eq_left', exists_eq', exists_eq, ne_eq, Try.f142, tb142_101, tb142_102, tb142_143, spRStops_q, spRStops_A, spRStops_pre, spRStops_post, spPick_q, spPick_A, spPick_pre, spPick_post, spOne_q, spOne_A, spOne_pre, spOne_post, spRCol_q, spRCol_A, spRCol_pre, spRCol_post, Picks]
  repeat' (first | apply And.intro | (intro _) | omega | assumption | with_reducible rfl)
  all_goals try (simp only [List.mem_cons, List.not_mem_nil, or_false] at *)
  any_goals
    refine loopS (α := (List Stp) × Int × Int) false [1, 3, 4, 5, 6, 7, 8, 9, 10, 11, 12, 13, 14, 15, 16, 17, 18, 19, 20, 21, 22, 23, 24, 25, 26, 27] (fun σ => [gId (σ.get 3)]) (fun σ x => [(3, .c (.own (gId (σ.get 3)) (x.1).length false)), (4, I x.2.1), (5, I x.2.2)]) (fun σ x => [(gId (σ.get 3), some ⟨(x.1).map stC, 5, 140, true, false⟩)]) (fun (o, a, n) => 5 * o.length) (fun σ => (gL stCd σ (σ.get 3), gI (σ.get 4), gI (σ.get 5))) (fun σ τ => [(gId (σ.get 3), gId (τ.get 3))]) (fun (o, a, n) => ((1 ≤ n ∨ 1 ≤ o.length) ∧ 0 ≤ n ∧ o.length + n ≤ 4) ∧ 0 ≤ a ∧ a ≤ 60 + 61 * o.length) (fun (o, a, n) => n.toNat) ⟨by (simp (config := { maxSteps := 1000000 }) only [go_sem, ↓ifP_true, ↓ifP_false, ↓ifP_not, Nat.reduceLT, Nat.reduceAdd, Nat.reduceBEq, Nat.reduceSub, Nat.reduceLeDiff, Nat.reduceEqDiff, Nat.reduceMul, Int.reduceToNat, Int.reduceEq, Int.reduceLT, Int.reduceLE, Int.reduceAdd, Int.reduceSub, Int.reduceMul, reduceCtorEq, cond_true, cond_false, forall_eq', forall_eq, forall_const, implies_true, if_true, if_false, exists_eq_left', exists_eq', exists_eq, ne_eq, Try.f142, tb142_101, tb142_102, tb142_143, spRStops_q, spRStops_A, spRStops_pre, spRStops_post, spPick_q, spPick_A, spPick_pre, spPick_post, spOne_q, spOne_A, spOne_pre, spOne_post, spRCol_q, spRCol_A, spRCol_pre, spRCol_post, Picks]; (repeat' (first | apply And.intro | (intro _) | omega | assumption | with_reducible rfl)); all_goals (first | omega)), ?_⟩
    rintro ⟨o, a, n⟩ hinv
    try dsimp only at hinv
    simp (config := { maxSteps := 1000000 }) only [go_sem, ↓ifP_true, ↓ifP_false, ↓ifP_not, Nat.reduceLT, Nat.reduceAdd, Nat.reduceBEq, Nat.reduceSub, Nat.reduceLeDiff, Nat.reduceEqDiff, Nat.reduceMul, Int.reduceToNat, Int.reduceEq, Int.reduceLT, Int.reduceLE, Int.reduceAdd, Int.reduceSub, Int.reduceMul, reduceCtorEq, cond_true, cond_false, forall_eq', forall_eq, forall_const, implies_true, if_true, if_false, exists_eq_left', exists_eq', exists_eq, ne_eq, Try.f142, tb142_101, tb142_102, tb142_143, spRStops_q, spRStops_A, spRStops_pre, spRStops_post, spPick_q, spPick_A, spPick_pre, spPick_post, spOne_q, spOne_A, spOne_pre, spOne_post, spRCol_q, spRCol_A, spRCol_pre, spRCol_post, Picks]
    repeat' (first | apply And.intro | (intro _) | omega | assumption | with_reducible rfl)
  
  all_goals (first | (exact ⟨_, rfl, rfl, by omega, by omega⟩; done) | (omega; done))
theorem sat_spec_randomStops : Sat Try.prog rt0 142 (wkIn spRStops) := sat_in (sat_out sat_spec_randomStops_0)
def spAStops_A : Unit → List AV
  | () => [.c .rdr]
def spAStops_pre : Unit → Prop
  | () => True
def spAStops_post : Unit → AV → List Box → Prop
  | (), r, bs => ∃ l : List Stp, r = .c (.own 0 l.length false) ∧ bs = [⟨l.map stC, 5, 140, true, false⟩] ∧ l.length ≤ 5
def spAStops : VE.Spec := famSpec spAStops_A d_r spAStops_pre spAStops_post 45 false
theorem spAStops_q : spAStops.flat = false ∧ spAStops.mt = [] ∧ spAStops.shut = false ∧ spAStops.cost = 45 ∧ (∀ a i, spAStops.pre a i = (i = [] ∧ famPre d_r spAStops_A spAStops_pre a)) ∧ ∀ a i r b, spAStops.post a i r b = (famPost d_r spAStops_post a r b) := ⟨rfl, rfl, rfl, rfl, fun _ _ => rfl, fun _ _ _ _ => rfl⟩
theorem ex_snoc {l : List Stp} (w : Int) (c : Colr) (h : l.length ≤ 4) : ∃ m : List Stp, l.length + 1 = m.length ∧ List.map stC l ++ [stC ⟨w, c⟩] = List.map stC m ∧ m.length ≤ 5 := ⟨l ++ [⟨w, c⟩], by simp, by simp, by simp; omega⟩
theorem ex_set {l : List Stp} (w : Int) (c : Colr) (h : l.length ≤ 4) : ∃ m : List Stp, l.length = m.length ∧ wkEs ((List.map stC l).set 0 (stC ⟨w, c⟩)) = List.map stC m ∧ m.length ≤ 5 := ⟨l.set 0 ⟨w, c⟩, by simp, by rw [← List.map_set]; exact stC_wks _, by simp; omega⟩
def tb120 : Nat → Option VE.Spec := tabOf [(101, wkIn spPick), (102, wkIn spOne), (143, wkIn spRCol), (144, wkIn spACol), (142, wkIn spRStops)]
theorem tb120_101 : tb120 101 = some (wkIn spPick) := rfl
theorem tb120_102 : tb120 102 = some (wkIn spOne) := rfl
theorem tb120_143 : tb120 143 = some (wkIn spRCol) := rfl
theorem tb120_144 : tb120 144 = some (wkIn spACol) := rfl
theorem tb120_142 : tb120 142 = some (wkIn spRStops) := rfl
theorem tb120_ok : TabOK Try.prog rt0 tb120 := (tabOf_cons (by kernel_rfl) sat_spec_reader_pick (tabOf_cons (by kernel_rfl) sat_spec_reader_one (tabOf_cons (by kernel_rfl) sat_spec_randomColor (tabOf_cons (by kernel_rfl) sat_spec_anyColor (tabOf_cons (by kernel_rfl) sat_spec_randomStops tabOf_nil)))))
set_option maxHeartbeats 4000000 in
theorem sat_spec_anyStops_0 : Sat Try.prog rt0 120 (wkOut spAStops) := by
  refine fn_sat hm ttok (tab := tb120) tb120_ok Try.func120 (c := Try.f120.body.getD .skip) (by kernel_rfl) (ts := [.tmp 2]) (by kernel_rfl) Try.ntmps120 (sq := fun _ => true) (by kernel_rfl) ?_
  intro args ins pk hpre0 hpk
  obtain ⟨rfl, hpre0⟩ := hpre0
  obtain ⟨⟨⟩, rfl, hpre, hdec⟩ := famPre_ex hpre0
  clear hpre0 hdec
  try simp only [spAStops_pre] at hpre
  replace hpk : pk + 45 ≤ pickLimit := hpk
  refine ⟨Nat.le_of_ble_eq_true rfl, ?_⟩
  simp (config := { maxSteps := 1000000 }) only [go_sem, ↓ifP_true, ↓ifP_false, ↓ifP_not, Nat.reduceLT, Nat.reduceAdd, Nat.reduceBEq, Nat.reduceSub, Nat.reduceLeDiff, Nat.reduceEqDiff, Nat.reduceMul, Int.reduceToNat, Int.reduceEq, Int.reduceLT, Int.reduceLE, Int.reduceAdd, Int.reduceSub, Int.reduceMul, reduceCtorEq, cond_true, cond_false, forall_eq', forall_eq, forall_const, implies_true, if_true, if_false, exists_eq_left', exists_eq', exists_eq, ne_eq, Try.f120, tb120_101, tb120_102, tb120_143, tb120_144, tb120_142, spAStops_q, spAStops_A, spAStops_pre, spAStops_post, spPick_q, spPick_A, spPick_pre, spPick_post, spOne_q, spOne_A, spOne_pre, spOne_post, spRCol_q, spRCol_A, spRCol_pre, spRCol_post, spACol_q, spACol_A, spACol_pre, spACol_post, spRStops_q, spRStops_A, spRStops_pre, spRStops_post, Picks]
  repeat' (first | apply And.intro | (intro _) | omega | assumption | with_reducible rfl)
  all_goals (first | (exact ⟨_, rfl, rfl, by omega⟩; done) | (exact ⟨[], rfl, rfl, by decide⟩; done) | (exact ex_set _ _ (by assumption); done) | (exact ex_snoc _ _ (by assumption); done))
theorem sat_spec_anyStops : Sat Try.prog rt0 120 (wkIn spAStops) := sat_in (sat_out sat_spec_anyStops_0)
end Go.Proofs.Ytdkfamajaopgoaa
end
section
set_option maxRecDepth 100000
set_option linter.unusedSimpArgs false
set_option linter.unusedVariables false
namespace Go.Proofs.Ytdkfamajaopgoaa
open Go Go.VE
theorem okF_mk {p : List Verb} {rl : Int} {pn : Pnt} (h : vPath p = true) (h2 : pn.ss.length ≤ 5) : okF ⟨p, rl, pn⟩ := ⟨by have := vPath_len h; dsimp only; omega, by have := vPath_pts h; dsimp only; omega, by dsimp only; omega⟩
theorem okF_nil {rl : Int} {pn : Pnt} (h2 : pn.ss.length ≤ 5) : okF ⟨[], rl, pn⟩ := ⟨by simp, by simp [nPts], by dsimp only; omega⟩
theorem okF_rl {f : Fil} (h : okF f) (rl : Int) : okF ⟨f.p, rl, f.pn⟩ := ⟨h.p, h.n, h.s⟩
theorem okF_path {f : Fil} (h : okF f) {p : List Verb} (h1 : p.length ≤ 31) (h2 : nPts p ≤ 100) : okF ⟨p, f.rl, f.pn⟩ := ⟨by dsimp only; omega, by dsimp only; omega, h.s⟩
theorem okF_ss {f : Fil} (h : okF f) {l : List Stp} (h1 : l.length ≤ 5) : okF ⟨f.p, f.rl, ⟨f.pn.f, f.pn.t, l⟩⟩ := ⟨h.p, h.n, by dsimp only; omega⟩
structure okScn (s : Scn) : Prop where
  len : s.fs.length ≤ 5
  fs : okFs s.fs
  w : 0 ≤ s.w ∧ s.w ≤ 13
  h : 0 ≤ s.h ∧ s.h ≤ 13
theorem okScn_w {s : Scn} (h : okScn s) {w : Int} (hw : 0 ≤ w ∧ w ≤ 13) : okScn ⟨w, s.h, s.fs⟩ := ⟨h.len, h.fs, hw, h.h⟩
theorem ex_pnt {l : List Stp} (f t : Pt) (h : l.length ≤ 4) : ∃ p : Pnt, ptC f ++ (ptC t ++ [C.sl false (List.map stC l)]) = pnC p ∧ p.ss.length ≤ 5 := ⟨⟨f, t, l⟩, rfl, by dsimp only; omega⟩
theorem ex_pnt0 {l : List Stp} (h : l.length ≤ 4) : ∃ p : Pnt, [C.v (.int .i64 0), C.v (.int .i64 0), C.v (.int .i64 0), C.v (.int .i64 0), C.sl false (List.map stC l)] = pnC p ∧ p.ss.length ≤ 5 := ⟨⟨⟨0, 0⟩, ⟨0, 0⟩, l⟩, rfl, by dsimp only; omega⟩
def spRPnt_A : Unit → List AV
  | () => [.c .rdr]
def spRPnt_pre : Unit → Prop
  | () => True
def spRPnt_post : Unit → AV → List Box → Prop
  | (), r, bs => ∃ p : Pnt, r = .agg (pnC p) ∧ bs = [] ∧ p.ss.length ≤ 5
def spRPnt : VE.Spec := famSpecS spRPnt_A d_r spRPnt_pre spRPnt_post 50 false
theorem spRPnt_q : spRPnt.flat = false ∧ spRPnt.mt = [] ∧ spRPnt.shut = true ∧ spRPnt.cost = 50 ∧ (∀ a i, spRPnt.pre a i = (i = [] ∧ famPre d_r spRPnt_A spRPnt_pre a)) ∧ ∀ a i r b, spRPnt.post a i r b = (famPost d_r spRPnt_post a r b) := ⟨rfl, rfl, rfl, rfl, fun _ _ => rfl, fun _ _ _ _ => rfl⟩
def tb139 : Nat → Option VE.Spec := tabOf [(101, wkIn spPick), (142, wkIn spRStops), (103, wkIn spSome)]
theorem tb139_101 : tb139 101 = some (wkIn spPick) := rfl
theorem tb139_142 : tb139 142 = some (wkIn spRStops) := rfl
theorem tb139_103 : tb139 103 = some (wkIn spSome) := rfl
theorem tb139_ok : TabOK Try.prog rt0 tb139 := (tabOf_cons (by kernel_rfl) sat_spec_reader_pick (tabOf_cons (by kernel_rfl) sat_spec_randomStops (tabOf_cons (by kernel_rfl) sat_spec_somePoint tabOf_nil)))
set_option maxHeartbeats 4000000 in
theorem sat_spec_randomPaint_0 : Sat Try.prog rt0 139 (wkOut spRPnt) := by
  refine fn_sat hm ttok (tab := tb139) tb139_ok Try.func139 (c := Try.f139.body.getD .skip) (by kernel_rfl) (ts := [.cell 2 60]) (by kernel_rfl) Try.ntmps139 (sq := fun _ => true) (by kernel_rfl) ?_
  intro args ins pk hpre0 hpk
  obtain ⟨rfl, hpre0⟩ := hpre0
  obtain ⟨⟨⟩, rfl, hpre, hdec⟩ := famPre_ex hpre0
  clear hpre0 hdec
  try simp only [spRPnt_pre] at hpre
  replace hpk : pk + 50 ≤ pickLimit := hpk
  refine ⟨Nat.le_of_ble_eq_true rfl, ?_⟩
  simp (config := { maxSteps := 1000000 }) only [go_sem, ↓ifP_true, ↓ifP_false, ↓ifP_not, Nat.reduceLT, Nat.reduceAdd, Nat.reduceBEq, Nat.reduceSub, Nat.reduceLeDiff, Nat.reduceEqDiff, Nat.reduceMul, Int.reduceToNat, Int.reduceEq, Int.reduceLT, Int.reduceLE, Int.reduceAdd, Int.reduceSub, Int.reduceMul, reduceCtorEq, cond_true, cond_false, forall_eq', forall_eq, forall_const, implies_true, if_true, if_false, exists_eq_left', exists_eq', exists_eq, ne_eq, Try.f139, tb139_101, tb139_142, tb139_103, spRPnt_q, spRPnt_A, spRPnt_pre, spRPnt_post, spPick_q, spPick_A, spPick_pre, spPick_post, spRStops_q, spRStops_A, spRStops_pre, spRStops_post, spSome_q, spSome_A, spSome_pre, spSome_post, Picks]
  repeat' (first | apply And.intro | (intro _) | omega | assumption | with_reducible rfl)
  all_goals (first | (rfl; done) | (exact ex_pnt _ _ (by assumption); done) | (exact ex_pnt0 (by assumption); done) | ((simp only [go_sem]; done); done) | ((simp (config := { maxSteps := 1000000 }) only [go_sem, ↓ifP_true, ↓ifP_false, ↓ifP_not, Nat.reduceLT, Nat.reduceAdd, Nat.reduceBEq, Nat.reduceSub, Nat.reduceLeDiff, Nat.reduceEqDiff, Nat.reduceMul, Int.reduceToNat, Int.reduceEq, Int.reduceLT, Int.reduceLE, Int.reduceAdd, Int.reduceSub, Int.reduceMul, reduceCtorEq, cond_true, cond_false, forall_eq', forall_eq, forall_const, implies_true, if_true, if_false, exists_eq_left', exists_eq', exists_eq, ne_eq]; done); done))
theorem sat_spec_randomPaint : Sat Try.prog rt0 139 (wkIn spRPnt) := sat_in (sat_out sat_spec_randomPaint_0)
end Go.Proofs.Ytdkfamajaopgoaa
end
section
set_option maxRecDepth 100000
set_option linter.unusedSimpArgs false
set_option linter.unusedVariables false
namespace Go.Proofs.Ytdkfamajaopgoaa
open Go Go.VE
def spRFil_A : Unit → List AV
  | () => [.c .rdr]
def spRFil_pre : Unit → Prop
  | () => True
def spRFil_post : Unit → AV → List Box → Prop
  | (), r, bs => ∃ f : Fil, r = .agg (flC f) ∧ bs = [] ∧ okF f
def spRFil : VE.Spec := famSpecS spRFil_A d_r spRFil_pre spRFil_post 200 false
theorem spRFil_q : spRFil.flat = false ∧ spRFil.mt = [] ∧ spRFil.shut = true ∧ spRFil.cost = 200 ∧ (∀ a i, spRFil.pre a i = (i = [] ∧ famPre d_r spRFil_A spRFil_pre a)) ∧ ∀ a i r b, spRFil.post a i r b = (famPost d_r spRFil_post a r b) := ⟨rfl, rfl, rfl, rfl, fun _ _ => rfl, fun _ _ _ _ => rfl⟩
def tb114 : Nat → Option VE.Spec := tabOf [(101, wkIn spPick), (100, wkIn spRPath), (52, wkIn spRings), (61, wkIn spVRings), (139, wkIn spRPnt)]
theorem tb114_101 : tb114 101 = some (wkIn spPick) := rfl
theorem tb114_100 : tb114 100 = some (wkIn spRPath) := rfl
theorem tb114_52 : tb114 52 = some (wkIn spRings) := rfl
theorem tb114_61 : tb114 61 = some (wkIn spVRings) := rfl
theorem tb114_139 : tb114 139 = some (wkIn spRPnt) := rfl
theorem tb114_ok : TabOK Try.prog rt0 tb114 := (tabOf_cons (by kernel_rfl) sat_spec_reader_pick (tabOf_cons (by kernel_rfl) sat_spec_randomPath (tabOf_cons (by kernel_rfl) sat_spec_rings (tabOf_cons (by kernel_rfl) sat_spec_validRings (tabOf_cons (by kernel_rfl) sat_spec_randomPaint tabOf_nil)))))
set_option maxHeartbeats 4000000 in
theorem sat_spec_randomFill_0 : Sat Try.prog rt0 114 (wkOut spRFil) := by
  refine fn_sat hm ttok (tab := tb114) tb114_ok Try.func114 (c := Try.f114.body.getD .skip) (by kernel_rfl) (ts := [.cell 2 62]) (by kernel_rfl) Try.ntmps114 (sq := fun _ => true) (by kernel_rfl) ?_
  intro args ins pk hpre0 hpk
  obtain ⟨rfl, hpre0⟩ := hpre0
  obtain ⟨⟨⟩, rfl, hpre, hdec⟩ := famPre_ex hpre0
  clear hpre0 hdec
  try simp only [spRFil_pre] at hpre
  replace hpk : pk + 200 ≤ pickLimit := hpk
  refine ⟨Nat.le_of_ble_eq_true rfl, ?_⟩
  simp (config := { maxSteps := 1000000 }) only [go_sem, ↓ifP_true, ↓ifP_false, ↓ifP_not, Nat.reduceLT, Nat.reduceAdd, Nat.reduceBEq, Nat.reduceSub, Nat.reduceLeDiff, Nat.reduceEqDiff, Nat.reduceMul, Int.reduceToNat, Int.reduceEq, Int.reduceLT, Int.reduceLE, Int.reduceAdd, Int.reduceSub, Int.reduceMul, reduceCtorEq, cond_true, cond_false, forall_eq', forall_eq, forall_const, implies_true, if_true, if_false, exists_eq_left', exists_eq', exists_eq, ne_eq, Try.f114, tb114_101, tb114_100, tb114_52, tb114_61, tb114_139, spRFil_q, spRFil_A, spRFil_pre, spRFil_post, spPick_q, spPick_A, spPick_pre, spPick_post, spRPath_q, spRPath_A, spRPath_pre, spRPath_post, spRings_q, spRings_A, spRings_pre, spRings_post, spVRings_q, spVRings_A, spVRings_pre, spVRings_post, spRPnt_q, spRPnt_A, spRPnt_pre, spRPnt_post, Picks]
  repeat' (first | apply And.intro | (intro _) | omega | assumption | with_reducible rfl)
  all_goals (first | (exact (rings_tot2 ‹vPath _ = true›).1; done) | (exact (rings_tot2 ‹vPath _ = true›).2; done) | (exact okF_mk ‹vPath _ = true› ‹_›; done) | (exact ⟨⟨[], _, _⟩, rfl, okF_nil ‹_›⟩; done))
theorem sat_spec_randomFill : Sat Try.prog rt0 114 (wkIn spRFil) := sat_in (sat_out sat_spec_randomFill_0)
end Go.Proofs.Ytdkfamajaopgoaa
end
section
set_option maxRecDepth 100000
set_option linter.unusedSimpArgs false
set_option linter.unusedVariables false
namespace Go.Proofs.Ytdkfamajaopgoaa
open Go Go.VE
theorem ex_fss {f : Fil} (h : okF f) {l : List Stp} (hl : l.length ≤ 5) : ∃ g : Fil, C.sl false (List.map vbC f.p) :: C.v (.int .i64 f.rl) :: wkCs (edC ⟨f.pn.f, f.pn.t⟩ ++ [C.sl false (List.map stC l)]) = flC g ∧ okF g := by
  refine ⟨⟨f.p, f.rl, ⟨f.pn.f, f.pn.t, l⟩⟩, ?_, okF_ss h hl⟩
  have e : wkCs (edC ⟨f.pn.f, f.pn.t⟩ ++ [C.sl false (List.map stC l)]) = edC ⟨f.pn.f, f.pn.t⟩ ++ [C.sl false (List.map stC l)] := by simp [edC, ptC, wkCs, wkC, stC_wks]
  rw [e]; rfl
def spAFil_A : Unit → List AV
  | () => [.c .rdr]
def spAFil_pre : Unit → Prop
  | () => True
def spAFil_post : Unit → AV → List Box → Prop
  | (), r, bs => ∃ f : Fil, r = .agg (flC f) ∧ bs = [] ∧ okF f
def spAFil : VE.Spec := famSpecS spAFil_A d_r spAFil_pre spAFil_post 430 false
theorem spAFil_q : spAFil.flat = false ∧ spAFil.mt = [] ∧ spAFil.shut = true ∧ spAFil.cost = 430 ∧ (∀ a i, spAFil.pre a i = (i = [] ∧ famPre d_r spAFil_A spAFil_pre a)) ∧ ∀ a i r b, spAFil.post a i r b = (famPost d_r spAFil_post a r b) := ⟨rfl, rfl, rfl, rfl, fun _ _ => rfl, fun _ _ _ _ => rfl⟩
def tb87 : Nat → Option VE.Spec := tabOf [(101, wkIn spPick), (102, wkIn spOne), (114, wkIn spRFil), (45, wkIn spAPath), (120, wkIn spAStops)]
theorem tb87_101 : tb87 101 = some (wkIn spPick) := rfl
theorem tb87_102 : tb87 102 = some (wkIn spOne) := rfl
theorem tb87_114 : tb87 114 = some (wkIn spRFil) := rfl
theorem tb87_45 : tb87 45 = some (wkIn spAPath) := rfl
theorem tb87_120 : tb87 120 = some (wkIn spAStops) := rfl
theorem tb87_ok : TabOK Try.prog rt0 tb87 := (tabOf_cons (by kernel_rfl) sat_spec_reader_pick (tabOf_cons (by kernel_rfl) sat_spec_reader_one (tabOf_cons (by kernel_rfl) sat_spec_randomFill (tabOf_cons (by kernel_rfl) sat_spec_anyPath (tabOf_cons (by kernel_rfl) sat_spec_anyStops tabOf_nil)))))
set_option maxHeartbeats 4000000 in
theorem sat_spec_anyFill_0 : Sat Try.prog rt0 87 (wkOut spAFil) := by
  refine fn_sat hm ttok (tab := tb87) tb87_ok Try.func87 (c := Try.f87.body.getD .skip) (by kernel_rfl) (ts := [.cell 2 62]) (by kernel_rfl) Try.ntmps87 (sq := fun _ => true) (by kernel_rfl) ?_
  intro args ins pk hpre0 hpk
  obtain ⟨rfl, hpre0⟩ := hpre0
  obtain ⟨⟨⟩, rfl, hpre, hdec⟩ := famPre_ex hpre0
  clear hpre0 hdec
  try simp only [spAFil_pre] at hpre
  replace hpk : pk + 430 ≤ pickLimit := hpk
  refine ⟨Nat.le_of_ble_eq_true rfl, ?_⟩
  simp (config := { maxSteps := 1000000 }) only [go_sem, ↓ifP_true, ↓ifP_false, ↓ifP_not, Nat.reduceLT, Nat.reduceAdd, Nat.reduceBEq, Nat.reduceSub, Nat.reduceLeDiff, Nat.reduceEqDiff, Nat.reduceMul, Int.reduceToNat, Int.reduceEq, Int.reduceLT, Int.reduceLE, Int.reduceAdd, Int.reduceSub, Int.reduceMul, reduceCtorEq, cond_true, cond_false, forall_eq', forall_eq, forall_const, implies_true, if_true, if_false, exists_eq_left', exists_eq', exists_eq, ne_eq, Try.f87, tb87_101, tb87_102, tb87_114, tb87_45, tb87_120, spAFil_q, spAFil_A, spAFil_pre, spAFil_post, spPick_q, spPick_A, spPick_pre, spPick_post, spOne_q, spOne_A, spOne_pre, spOne_post, spRFil_q, spRFil_A, spRFil_pre, spRFil_post, spAPath_q, spAPath_A, spAPath_pre, spAPath_post, spAStops_q, spAStops_A, spAStops_pre, spAStops_post, Picks]
  repeat' (first | apply And.intro | (intro _) | omega | assumption | with_reducible rfl)
  all_goals (first | (rfl; done) | (assumption; done) | (exact ⟨⟨_, _, _⟩, rfl, okF_rl ‹okF _› _⟩; done) | (exact ⟨⟨_, _, _⟩, rfl, okF_path ‹okF _› ‹_› ‹_›⟩; done) | (exact ⟨⟨_, _, ⟨_, _, _⟩⟩, rfl, okF_ss ‹okF _› ‹_›⟩; done) | (exact okF_rl ‹okF _› _; done) | (exact okF_path ‹okF _› ‹_› ‹_›; done) | (exact okF_ss ‹okF _› ‹_›; done) | (exact ex_fss ‹okF _› ‹_›; done) | ((simp (config := { maxSteps := 1000000 }) only [go_sem, ↓ifP_true, ↓ifP_false, ↓ifP_not, Nat.reduceLT, Nat.reduceAdd, Nat.reduceBEq, Nat.reduceSub, Nat.reduceLeDiff, Nat.reduceEqDiff, Nat.reduceMul, Int.reduceToNat, Int.reduceEq, Int.reduceLT, Int.reduceLE, Int.reduceAdd, Int.reduceSub, Int.reduceMul, reduceCtorEq, cond_true, cond_false, forall_eq', forall_eq, forall_const, implies_true, if_true, if_false, exists_eq_left', exists_eq', exists_eq, ne_eq]; done); done))
theorem sat_spec_anyFill : Sat Try.prog rt0 87 (wkIn spAFil) := sat_in (sat_out sat_spec_anyFill_0)
end Go.Proofs.Ytdkfamajaopgoaa
end
section
set_option maxRecDepth 100000
set_option linter.unusedSimpArgs false
set_option linter.unusedVariables false
namespace Go.Proofs.Ytdkfamajaopgoaa
open Go Go.VE
theorem ex_scn {o : List Fil} {f : Fil} {w h : Int} (ho : okFs o) (hl : o.length ≤ 4) (hf : okF f) (hw : 0 ≤ w ∧ w ≤ 13) (hh : 0 ≤ h ∧ h ≤ 13) : ∃ c : Scn, [C.v (.int .i64 w), C.v (.int .i64 h), C.sl false (List.map flC o ++ [flC f])] = scC c ∧ okScn c :=
  ⟨⟨w, h, o ++ [f]⟩, by simp [scC], ⟨by simp; omega, okFs_snoc ho (by omega) hf, hw, hh⟩⟩
def spAScn_A : Unit → List AV
  | () => [.c .rdr]
def spAScn_pre : Unit → Prop
  | () => True
def spAScn_post : Unit → AV → List Box → Prop
  | (), r, bs => ∃ c : Scn, r = .agg (scC c) ∧ bs = [] ∧ okScn c
def spAScn : VE.Spec := famSpecS spAScn_A d_r spAScn_pre spAScn_post 1300 false
theorem spAScn_q : spAScn.flat = false ∧ spAScn.mt = [] ∧ spAScn.shut = true ∧ spAScn.cost = 1300 ∧ (∀ a i, spAScn.pre a i = (i = [] ∧ famPre d_r spAScn_A spAScn_pre a)) ∧ ∀ a i r b, spAScn.post a i r b = (famPost d_r spAScn_post a r b) := ⟨rfl, rfl, rfl, rfl, fun _ _ => rfl, fun _ _ _ _ => rfl⟩
def tb68 : Nat → Option VE.Spec := tabOf [(101, wkIn spPick), (102, wkIn spOne), (114, wkIn spRFil), (87, wkIn spAFil)]
theorem tb68_101 : tb68 101 = some (wkIn spPick) := rfl
theorem tb68_102 : tb68 102 = some (wkIn spOne) := rfl
theorem tb68_114 : tb68 114 = some (wkIn spRFil) := rfl
theorem tb68_87 : tb68 87 = some (wkIn spAFil) := rfl
theorem tb68_ok : TabOK Try.prog rt0 tb68 := (tabOf_cons (by kernel_rfl) sat_spec_reader_pick (tabOf_cons (by kernel_rfl) sat_spec_reader_one (tabOf_cons (by kernel_rfl) sat_spec_randomFill (tabOf_cons (by kernel_rfl) sat_spec_anyFill tabOf_nil))))
set_option maxHeartbeats 4000000 in
theorem sat_spec_anyScene_0 : Sat Try.prog rt0 68 (wkOut spAScn) := by
  refine fn_sat hm ttok (tab := tb68) tb68_ok Try.func68 (c := Try.f68.body.getD .skip) (by kernel_rfl) (ts := [.cell 2 43]) (by kernel_rfl) Try.ntmps68 (sq := fun _ => true) (by kernel_rfl) ?_
  intro args ins pk hpre0 hpk
  obtain ⟨rfl, hpre0⟩ := hpre0
  obtain ⟨⟨⟩, rfl, hpre, hdec⟩ := famPre_ex hpre0
  clear hpre0 hdec
  try simp only [spAScn_pre] at hpre
  replace hpk : pk + 1300 ≤ pickLimit := hpk
  refine ⟨Nat.le_of_ble_eq_true rfl, ?_⟩
  simp (config := { maxSteps := 1000000 }) only [go_sem, ↓ifP_true, ↓ifP_false, ↓ifP_not, Nat.reduceLT, Nat.reduceAdd, Nat.reduceBEq, Nat.reduceSub, Nat.reduceLeDiff, Nat.reduceEqDiff, Nat.reduceMul, Int.reduceToNat, Int.reduceEq, Int.reduceLT, Int.reduceLE, Int.reduceAdd, Int.reduceSub, Int.reduceMul, reduceCtorEq, cond_true, cond_false, forall_eq', forall_eq, forall_const, implies_true, if_true, if_false, exists_eq_left', exists_eq', exists_eq, ne_eq, Try.f68, tb68_101, tb68_102, tb68_114, tb68_87, spAScn_q, spAScn_A, spAScn_pre, spAScn_post, spPick_q, spPick_A, spPick_pre, spPick_post, spOne_q, spOne_A, spOne_pre, spOne_post, spRFil_q, spRFil_A, spRFil_pre, spRFil_post, spAFil_q, spAFil_A, spAFil_pre, spAFil_post, Picks]
  repeat' (first | apply And.intro | (intro _) | omega | assumption | with_reducible rfl)
  all_goals try (simp only [List.mem_cons, List.not_mem_nil, or_false] at *)
  any_goals
    refine loopS (α := (List Fil) × Int) false [1, 4, 5, 6, 7, 8, 9, 10, 11, 12, 13, 14, 15, 16, 17, 18, 19, 20, 21, 22, 23, 24, 25, 28, 34] (fun σ => [gId (σ.get 4)]) (fun σ x => [(4, .c (.own (gId (σ.get 4)) (x.1).length false)), (5, I x.2)]) (fun σ x => [(gId (σ.get 4), some ⟨(x.1).map flC, 7, 62, true, false⟩)]) (fun (o, n) => 200 * o.length) (fun σ => (gL flCd σ (σ.get 4), gI (σ.get 5))) (fun σ τ => [(gId (σ.get 4), gId (τ.get 4))]) (fun (o, n) => (0 ≤ n ∧ o.length + n ≤ 4) ∧ okFs o) (fun (o, n) => n.toNat) ⟨by (simp (config := { maxSteps := 1000000 }) only [go_sem, ↓ifP_true, ↓ifP_false, ↓ifP_not, Nat.reduceLT, Nat.reduceAdd, Nat.reduceBEq, Nat.reduceSub, Nat.reduceLeDiff, Nat.reduceEqDiff, Nat.reduceMul, Int.reduceToNat, Int.reduceEq, Int.reduceLT, Int.reduceLE, Int.reduceAdd, Int.reduceSub, Int.reduceMul, reduceCtorEq, cond_true, cond_false, forall_eq', forall_eq, forall_const, implies_true, if_true, if_false, exists_eq_left', exists_eq', exists_eq, ne_eq, Try.f68, tb68_101, tb68_102, tb68_114, tb68_87, spAScn_q, spAScn_A, spAScn_pre, spAScn_post, spPick_q, spPick_A, spPick_pre, spPick_post, spOne_q, spOne_A, spOne_pre, spOne_post, spRFil_q, spRFil_A, spRFil_pre, spRFil_post, spAFil_q, spAFil_A, spAFil_pre, spAFil_post, Picks]; (repeat' (first | apply And.intro | (intro _) | omega | assumption | with_reducible rfl)); all_goals (first | omega | exact okFs_nil)), ?_⟩
    rintro ⟨o, n⟩ hinv
    try dsimp only at hinv
    simp (config := { maxSteps := 1000000 }) only [go_sem, ↓ifP_true, ↓ifP_false, ↓ifP_not, Nat.reduceLT, Nat.reduceAdd, Nat.reduceBEq, Nat.reduceSub, Nat.reduceLeDiff, Nat.reduceEqDiff, Nat.reduceMul, Int.reduceToNat, Int.reduceEq, Int.reduceLT, Int.reduceLE, Int.reduceAdd, Int.reduceSub, Int.reduceMul, reduceCtorEq, cond_true, cond_false, forall_eq', forall_eq, forall_const, implies_true, if_true, if_false, exists_eq_left', exists_eq', exists_eq, ne_eq, Try.f68, tb68_101, tb68_102, tb68_114, tb68_87, spAScn_q, spAScn_A, spAScn_pre, spAScn_post, spPick_q, spPick_A, spPick_pre, spPick_post, spOne_q, spOne_A, spOne_pre, spOne_post, spRFil_q, spRFil_A, spRFil_pre, spRFil_post, spAFil_q, spAFil_A, spAFil_pre, spAFil_post, Picks]
    repeat' (first | apply And.intro | (intro _) | omega | assumption | with_reducible rfl)
  
  all_goals (first | (omega; done) | (exact okFs_snoc hinv.2 (by omega) ‹okF _›; done) | ((refine ex_scn hinv.2 (by omega) ‹okF _› ?_ ?_ <;> omega); done) | ((refine ⟨by dsimp only; omega, hinv.2, ?_, ?_⟩ <;> (try simp only [List.mem_cons, List.not_mem_nil, or_false] at *) <;> (try dsimp only) <;> omega); done))
theorem sat_spec_anyScene : Sat Try.prog rt0 68 (wkIn spAScn) := sat_in (sat_out sat_spec_anyScene_0)
end Go.Proofs.Ytdkfamajaopgoaa
end
section
set_option maxRecDepth 100000
set_option linter.unusedSimpArgs false
set_option linter.unusedVariables false
namespace Go.Proofs.Ytdkfamajaopgoaa
open Go Go.VE
def spDScn_A : (List UInt8) → List AV
  | code => [.c (.sl false (byC code))]
def spDScn_pre : (List UInt8) → Prop
  | code => code.length ≤ 1048576
def spDScn_post : (List UInt8) → AV → List Box → Prop
  | code, r, bs => ∃ c : Scn, r = .agg (scC c) ∧ bs = [] ∧ okScn c
def spDScn : VE.Spec := famSpecS spDScn_A d_ly spDScn_pre spDScn_post 1310 false
theorem spDScn_q : spDScn.flat = false ∧ spDScn.mt = [] ∧ spDScn.shut = true ∧ spDScn.cost = 1310 ∧ (∀ a i, spDScn.pre a i = (i = [] ∧ famPre d_ly spDScn_A spDScn_pre a)) ∧ ∀ a i r b, spDScn.post a i r b = (famPost d_ly spDScn_post a r b) := ⟨rfl, rfl, rfl, rfl, fun _ _ => rfl, fun _ _ _ _ => rfl⟩
def tb28 : Nat → Option VE.Spec := tabOf [(46, wkIn spNew), (68, wkIn spAScn)]
theorem tb28_46 : tb28 46 = some (wkIn spNew) := rfl
theorem tb28_68 : tb28 68 = some (wkIn spAScn) := rfl
theorem tb28_ok : TabOK Try.prog rt0 tb28 := (tabOf_cons (by kernel_rfl) sat_spec_newReader (tabOf_cons (by kernel_rfl) sat_spec_anyScene tabOf_nil))
set_option maxHeartbeats 4000000 in
theorem sat_spec_DrawValidScene_0 : Sat Try.prog rt0 28 (wkOut spDScn) := by
  refine fn_sat hm ttok (tab := tb28) tb28_ok Try.func28 (c := Try.f28.body.getD .skip) (by kernel_rfl) (ts := [.cell 2 43]) (by kernel_rfl) Try.ntmps28 (sq := fun _ => true) (by kernel_rfl) ?_
  intro args ins pk hpre0 hpk
  obtain ⟨rfl, hpre0⟩ := hpre0
  obtain ⟨code, rfl, hpre, hdec⟩ := famPre_ex hpre0
  clear hpre0 hdec
  try simp only [spDScn_pre] at hpre
  replace hpk : pk + 1310 ≤ pickLimit := hpk
  refine ⟨Nat.le_of_ble_eq_true rfl, ?_⟩
  simp (config := { maxSteps := 1000000 }) only [go_sem, ↓ifP_true, ↓ifP_false, ↓ifP_not, Nat.reduceLT, Nat.reduceAdd, Nat.reduceBEq, Nat.reduceSub, Nat.reduceLeDiff, Nat.reduceEqDiff, Nat.reduceMul, Int.reduceToNat, Int.reduceEq, Int.reduceLT, Int.reduceLE, Int.reduceAdd, Int.reduceSub, Int.reduceMul, reduceCtorEq, cond_true, cond_false, forall_eq', forall_eq, forall_const, implies_true, if_true, if_false, exists_eq_left', exists_eq', exists_eq, ne_eq, Try.f28, tb28_46, tb28_68, spDScn_q, spDScn_A, spDScn_pre, spDScn_post, spNew_q, spAScn_q, spAScn_A, spAScn_pre, spAScn_post]
  repeat' (first | apply And.intro | (intro _) | omega | assumption | with_reducible rfl)
  all_goals (first | (exact ⟨_, _, rfl, rfl, hpre⟩; done) | (assumption; done) | (exact ⟨_, rfl, ‹okScn _›⟩; done))
theorem sat_spec_DrawValidScene : Sat Try.prog rt0 28 (wkIn spDScn) := sat_in (sat_out sat_spec_DrawValidScene_0)
end Go.Proofs.Ytdkfamajaopgoaa
end
