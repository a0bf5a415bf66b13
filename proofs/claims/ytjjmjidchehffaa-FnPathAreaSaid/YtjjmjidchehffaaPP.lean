/- Contracts of functions of the program vectorraster, each proved for all states that fit its description. No conditions. -/
import Derived.Test.YtjjmjidchehffaaPJ
import Derived.Test.YtjjmjidchehffaaPA
import Derived.Test.YtjjmjidchehffaaKK
import Derived.Test.YtjjmjidchehffaaPO
import Derived.Test.YtjjmjidchehffaaPC
import Derived.Test.YtjjmjidchehffaaPH
set_option linter.unusedSimpArgs false
set_option linter.unusedVariables false
section
set_option maxRecDepth 100000
set_option linter.unusedSimpArgs false
set_option linter.unusedVariables false
namespace Go.Proofs.Ytjjmjidchehffaa
open Go Go.VE
def spEqP_A : (List Pt) × (List Pt) → List AV
  | (a, b) => [.c (.sl false (a.map ptC)), .c (.sl false (b.map ptC))]
def spEqP_pre : (List Pt) × (List Pt) → Prop
  | (a, b) => a.length ≤ 1000000000 ∧ b.length ≤ 1000000000
def spEqP_post : (List Pt) × (List Pt) → AV → List Box → Prop
  | (a, b), r, bs => r = B (decide (a = b)) ∧ bs = []
def spEqP : VE.Spec := famSpec spEqP_A d_lpt_lpt spEqP_pre spEqP_post 0 true
theorem spEqP_q : spEqP.flat = true ∧ spEqP.mt = [] ∧ spEqP.shut = false ∧ spEqP.cost = 0 ∧ (∀ a i, spEqP.pre a i = (i = [] ∧ famPre d_lpt_lpt spEqP_A spEqP_pre a)) ∧ ∀ a i r b, spEqP.post a i r b = (famPost d_lpt_lpt spEqP_post a r b) := ⟨rfl, rfl, rfl, rfl, fun _ _ => rfl, fun _ _ _ _ => rfl⟩
def tb80 : Nat → Option VE.Spec := tabOf []
theorem tb80_ok : TabOK Try.prog rt0 tb80 := tabOf_nil
set_option maxHeartbeats 4000000 in
theorem sat_laws_equalPoints_0 : Sat Try.prog rt0 80 (wkOut spEqP) := by
  refine fn_sat hm ttok (tab := tb80) tb80_ok Try.func80 (c := Try.f80.body.getD .skip) (by kernel_rfl) (ts := [.tmp 4]) (by kernel_rfl) Try.ntmps80 (sq := fun _ => true) (by kernel_rfl) ?_
  intro args ins pk hpre0 hpk
  obtain ⟨rfl, hpre0⟩ := hpre0
  obtain ⟨⟨a, b⟩, rfl, hpre, hdec⟩ := famPre_ex hpre0
  clear hpre0 hdec
  try simp only [spEqP_pre] at hpre
  replace hpk : pk + 0 ≤ pickLimit := hpk
  refine ⟨Nat.le_of_ble_eq_true rfl, ?_⟩
  simp (config := { maxSteps := 1000000 }) only [go_sem, ↓ifP_true, ↓ifP_false, ↓ifP_not, Nat.reduceLT, Nat.reduceAdd, Nat.reduceBEq, Nat.reduceSub, Nat.reduceLeDiff, Nat.reduceEqDiff, Nat.reduceMul, Int.reduceToNat, Int.reduceEq, Int.reduceLT, Int.reduceLE, Int.reduceAdd, Int.reduceSub, Int.reduceMul, reduceCtorEq, cond_true, cond_false, forall_eq', forall_eq, forall_const, implies_true, if_true, if_false, exists_eq_left', exists_eq', exists_eq, ne_eq, Try.f80, spEqP_q, spEqP_A, spEqP_pre, spEqP_post]
  repeat' (first | apply And.intro | (intro _) | omega | assumption | with_reducible rfl)
  any_goals
    refine loopS (α := Int) false [2, 3, 4, 5, 6, 7, 8, 9, 10, 11, 12, 13, 14, 15, 16, 17, 18, 19, 20, 21, 22, 23, 24, 25] (fun σ => []) (fun σ x => [(5, I x)]) (fun σ x => []) (fun i => 0) (fun σ => gI (σ.get 5)) (fun σ τ => []) (fun i => 0 ≤ i ∧ i ≤ a.length ∧ a.take i.toNat = b.take i.toNat) (fun i => (a.length - i).toNat) ⟨by (simp (config := { maxSteps := 1000000 }) only [go_sem, ↓ifP_true, ↓ifP_false, ↓ifP_not, Nat.reduceLT, Nat.reduceAdd, Nat.reduceBEq, Nat.reduceSub, Nat.reduceLeDiff, Nat.reduceEqDiff, Nat.reduceMul, Int.reduceToNat, Int.reduceEq, Int.reduceLT, Int.reduceLE, Int.reduceAdd, Int.reduceSub, Int.reduceMul, reduceCtorEq, cond_true, cond_false, forall_eq', forall_eq, forall_const, implies_true, if_true, if_false, exists_eq_left', exists_eq', exists_eq, ne_eq, Try.f80, spEqP_q, spEqP_A, spEqP_pre, spEqP_post]; (repeat' (first | apply And.intro | (intro _) | omega | assumption | with_reducible rfl)); all_goals (first | rfl)), ?_⟩
    rintro i hinv
    try dsimp only at hinv
    simp (config := { maxSteps := 1000000 }) only [go_sem, ↓ifP_true, ↓ifP_false, ↓ifP_not, Nat.reduceLT, Nat.reduceAdd, Nat.reduceBEq, Nat.reduceSub, Nat.reduceLeDiff, Nat.reduceEqDiff, Nat.reduceMul, Int.reduceToNat, Int.reduceEq, Int.reduceLT, Int.reduceLE, Int.reduceAdd, Int.reduceSub, Int.reduceMul, reduceCtorEq, cond_true, cond_false, forall_eq', forall_eq, forall_const, implies_true, if_true, if_false, exists_eq_left', exists_eq', exists_eq, ne_eq, Try.f80, spEqP_q, spEqP_A, spEqP_pre, spEqP_post]
    repeat' (first | apply And.intro | (intro _) | omega | assumption | with_reducible rfl)
  
  all_goals (first | (exact eqL_step ‹_› ‹_› ‹_› hinv.1 hinv.2.2; done) | (exact (decide_eq_false (eqL_no ‹_› ‹_› ‹_›)).symm; done) | (exact (decide_eq_true (eqL_end ‹_› ‹_› hinv.2.2)).symm; done) | (exact (decide_eq_false (eqL_len ‹_›)).symm; done))
theorem sat_laws_equalPoints : Sat Try.prog rt0 80 (wkIn spEqP) := sat_in (sat_out sat_laws_equalPoints_0)
def spEqR_A : (List (List Pt)) × (List (List Pt)) → List AV
  | (a, b) => [.c (.sl false (a.map lptC)), .c (.sl false (b.map lptC))]
def spEqR_pre : (List (List Pt)) × (List (List Pt)) → Prop
  | (a, b) => a.length ≤ 1000000000 ∧ b.length ≤ 1000000000 ∧ total a ≤ 1000000000 ∧ total b ≤ 1000000000
def spEqR_post : (List (List Pt)) × (List (List Pt)) → AV → List Box → Prop
  | (a, b), r, bs => r = B (decide (a = b)) ∧ bs = []
def spEqR : VE.Spec := famSpec spEqR_A d_llpt_llpt spEqR_pre spEqR_post 0 true
theorem spEqR_q : spEqR.flat = true ∧ spEqR.mt = [] ∧ spEqR.shut = false ∧ spEqR.cost = 0 ∧ (∀ a i, spEqR.pre a i = (i = [] ∧ famPre d_llpt_llpt spEqR_A spEqR_pre a)) ∧ ∀ a i r b, spEqR.post a i r b = (famPost d_llpt_llpt spEqR_post a r b) := ⟨rfl, rfl, rfl, rfl, fun _ _ => rfl, fun _ _ _ _ => rfl⟩
def tb30 : Nat → Option VE.Spec := tabOf [(80, wkIn spEqP)]
theorem tb30_80 : tb30 80 = some (wkIn spEqP) := rfl
theorem tb30_ok : TabOK Try.prog rt0 tb30 := (tabOf_cons (by kernel_rfl) sat_laws_equalPoints tabOf_nil)
set_option maxHeartbeats 4000000 in
theorem sat_laws_equalRings_0 : Sat Try.prog rt0 30 (wkOut spEqR) := by
  refine fn_sat hm ttok (tab := tb30) tb30_ok Try.func30 (c := Try.f30.body.getD .skip) (by kernel_rfl) (ts := [.tmp 4]) (by kernel_rfl) Try.ntmps30 (sq := fun _ => true) (by kernel_rfl) ?_
  intro args ins pk hpre0 hpk
  obtain ⟨rfl, hpre0⟩ := hpre0
  obtain ⟨⟨a, b⟩, rfl, hpre, hdec⟩ := famPre_ex hpre0
  clear hpre0 hdec
  try simp only [spEqR_pre] at hpre
  replace hpk : pk + 0 ≤ pickLimit := hpk
  refine ⟨Nat.le_of_ble_eq_true rfl, ?_⟩
  simp (config := { maxSteps := 1000000 }) only [go_sem, ↓ifP_true, ↓ifP_false, ↓ifP_not, Nat.reduceLT, Nat.reduceAdd, Nat.reduceBEq, Nat.reduceSub, Nat.reduceLeDiff, Nat.reduceEqDiff, Nat.reduceMul, Int.reduceToNat, Int.reduceEq, Int.reduceLT, Int.reduceLE, Int.reduceAdd, Int.reduceSub, Int.reduceMul, reduceCtorEq, cond_true, cond_false, forall_eq', forall_eq, forall_const, implies_true, if_true, if_false, exists_eq_left', exists_eq', exists_eq, ne_eq, Try.f30, tb30_80, spEqR_q, spEqR_A, spEqR_pre, spEqR_post, spEqP_q, spEqP_A, spEqP_pre, spEqP_post]
  repeat' (first | apply And.intro | (intro _) | omega | assumption | with_reducible rfl)
  any_goals
    refine loopS (α := Int) false [2, 3, 4, 5, 6, 7, 8, 9, 10, 11, 12, 13, 14, 15, 16, 17, 18, 19, 20, 21, 22, 23, 24, 25, 26] (fun σ => []) (fun σ x => [(5, I x)]) (fun σ x => []) (fun i => 0) (fun σ => gI (σ.get 5)) (fun σ τ => []) (fun i => 0 ≤ i ∧ i ≤ a.length ∧ a.take i.toNat = b.take i.toNat) (fun i => (a.length - i).toNat) ⟨by (simp (config := { maxSteps := 1000000 }) only [go_sem, ↓ifP_true, ↓ifP_false, ↓ifP_not, Nat.reduceLT, Nat.reduceAdd, Nat.reduceBEq, Nat.reduceSub, Nat.reduceLeDiff, Nat.reduceEqDiff, Nat.reduceMul, Int.reduceToNat, Int.reduceEq, Int.reduceLT, Int.reduceLE, Int.reduceAdd, Int.reduceSub, Int.reduceMul, reduceCtorEq, cond_true, cond_false, forall_eq', forall_eq, forall_const, implies_true, if_true, if_false, exists_eq_left', exists_eq', exists_eq, ne_eq, Try.f30, tb30_80, spEqR_q, spEqR_A, spEqR_pre, spEqR_post, spEqP_q, spEqP_A, spEqP_pre, spEqP_post]; (repeat' (first | apply And.intro | (intro _) | omega | assumption | with_reducible rfl)); all_goals (first | rfl)), ?_⟩
    rintro i hinv
    try dsimp only at hinv
    simp (config := { maxSteps := 1000000 }) only [go_sem, ↓ifP_true, ↓ifP_false, ↓ifP_not, Nat.reduceLT, Nat.reduceAdd, Nat.reduceBEq, Nat.reduceSub, Nat.reduceLeDiff, Nat.reduceEqDiff, Nat.reduceMul, Int.reduceToNat, Int.reduceEq, Int.reduceLT, Int.reduceLE, Int.reduceAdd, Int.reduceSub, Int.reduceMul, reduceCtorEq, cond_true, cond_false, forall_eq', forall_eq, forall_const, implies_true, if_true, if_false, exists_eq_left', exists_eq', exists_eq, ne_eq, Try.f30, tb30_80, spEqR_q, spEqR_A, spEqR_pre, spEqR_post, spEqP_q, spEqP_A, spEqP_pre, spEqP_post]
    repeat' (first | apply And.intro | (intro _) | omega | assumption | with_reducible rfl)
  
  all_goals (first | (exact eqL_step ‹_› ‹_› ‹_› hinv.1 hinv.2.2; done) | (exact (decide_eq_false (eqL_no ‹_› ‹_› ‹_›)).symm; done) | (exact (decide_eq_true (eqL_end ‹_› ‹_› hinv.2.2)).symm; done) | (exact (decide_eq_false (eqL_len ‹_›)).symm; done) | ((have h9 := total_mem ‹a[i.toNat]? = some _›; omega); done) | ((have h9 := total_mem ‹b[i.toNat]? = some _›; omega); done))
theorem sat_laws_equalRings : Sat Try.prog rt0 30 (wkIn spEqR) := sat_in (sat_out sat_laws_equalRings_0)
end Go.Proofs.Ytjjmjidchehffaa
end
section
set_option maxRecDepth 100000
set_option linter.unusedSimpArgs false
set_option linter.unusedVariables false
namespace Go.Proofs.Ytjjmjidchehffaa
open Go Go.VE
def tb47 : Nat → Option VE.Spec := tabOf [(25, wkIn spVRings), (60, wkIn spEdges)]
theorem tb47_25 : tb47 25 = some (wkIn spVRings) := rfl
theorem tb47_60 : tb47 60 = some (wkIn spEdges) := rfl
theorem tb47_ok : TabOK Try.prog rt0 tb47 := (tabOf_cons (by kernel_rfl) sat_impl_ValidRings (tabOf_cons (by kernel_rfl) sat_impl_edges tabOf_nil))
set_option maxHeartbeats 4000000 in
theorem sat_impl_AreaOf_0 : Sat Try.prog rt0 47 (wkOut spArea) := by
  refine fn_sat hm ttok (tab := tb47) tb47_ok Try.func47 (c := Try.f47.body.getD .skip) (by kernel_rfl) (ts := [.tmp 2]) (by kernel_rfl) Try.ntmps47 (sq := fun _ => true) (by kernel_rfl) ?_
  intro args ins pk hpre0 hpk
  obtain ⟨rfl, hpre0⟩ := hpre0
  obtain ⟨L, rfl, hpre, hdec⟩ := famPre_ex hpre0
  clear hpre0 hdec
  try simp only [spArea_pre] at hpre
  replace hpk : pk + 0 ≤ pickLimit := hpk
  refine ⟨Nat.le_of_ble_eq_true rfl, ?_⟩
  simp (config := { maxSteps := 1000000 }) only [go_sem, ↓ifP_true, ↓ifP_false, ↓ifP_not, Nat.reduceLT, Nat.reduceAdd, Nat.reduceBEq, Nat.reduceSub, Nat.reduceLeDiff, Nat.reduceEqDiff, Nat.reduceMul, Int.reduceToNat, Int.reduceEq, Int.reduceLT, Int.reduceLE, Int.reduceAdd, Int.reduceSub, Int.reduceMul, reduceCtorEq, cond_true, cond_false, forall_eq', forall_eq, forall_const, implies_true, if_true, if_false, exists_eq_left', exists_eq', exists_eq, ne_eq, Try.f47, tb47_25, tb47_60, spArea_q, spArea_A, spArea_pre, spArea_post, spVRings_q, spVRings_A, spVRings_pre, spVRings_post, spEdges_q, spEdges_A, spEdges_pre, spEdges_post]
  repeat' (first | apply And.intro | (intro _) | omega | assumption | with_reducible rfl)
  any_goals
    refine loopS (α := Int × Int) false [0, 1, 3, 4, 5, 6, 7, 8, 9, 12, 13, 14, 15, 16, 17, 18, 19, 20, 21, 22, 23, 24, 25, 26, 27, 28, 29, 30, 31, 32, 33] (fun σ => []) (fun σ x => [(3, I x.1), (12, I x.2)]) (fun σ x => []) (fun (n, i) => 0) (fun σ => (gI (σ.get 3), gI (σ.get 12))) (fun σ τ => []) (fun (n, i) => 0 ≤ i ∧ i ≤ (edgesOf L).length ∧ n = areaE ((edgesOf L).take i.toNat)) (fun (n, i) => ((edgesOf L).length - i).toNat) ⟨by (simp (config := { maxSteps := 1000000 }) only [go_sem, ↓ifP_true, ↓ifP_false, ↓ifP_not, Nat.reduceLT, Nat.reduceAdd, Nat.reduceBEq, Nat.reduceSub, Nat.reduceLeDiff, Nat.reduceEqDiff, Nat.reduceMul, Int.reduceToNat, Int.reduceEq, Int.reduceLT, Int.reduceLE, Int.reduceAdd, Int.reduceSub, Int.reduceMul, reduceCtorEq, cond_true, cond_false, forall_eq', forall_eq, forall_const, implies_true, if_true, if_false, exists_eq_left', exists_eq', exists_eq, ne_eq, Try.f47, tb47_25, tb47_60, spArea_q, spArea_A, spArea_pre, spArea_post, spVRings_q, spVRings_A, spVRings_pre, spVRings_post, spEdges_q, spEdges_A, spEdges_pre, spEdges_post]; (repeat' (first | apply And.intro | (intro _) | omega | assumption | with_reducible rfl)); all_goals (first | rfl)), ?_⟩
    rintro ⟨n, i⟩ hinv
    try dsimp only at hinv
    rcases elemAt (edgesOf L) i (by omega) with ⟨hlt, e, hk⟩ | hlt
    all_goals (first | ((have hlt2 := of_eq_true hlt); (have hv : vRings L = true := ‹_›); (have hE := prod_bd (edge_at hv hk)); (have hB := area_part hv i.toNat); (have hl := edges_len hv); all_goals simp (config := { maxSteps := 1000000 }) only [go_sem, ↓ifP_true, ↓ifP_false, ↓ifP_not, Nat.reduceLT, Nat.reduceAdd, Nat.reduceBEq, Nat.reduceSub, Nat.reduceLeDiff, Nat.reduceEqDiff, Nat.reduceMul, Int.reduceToNat, Int.reduceEq, Int.reduceLT, Int.reduceLE, Int.reduceAdd, Int.reduceSub, Int.reduceMul, reduceCtorEq, cond_true, cond_false, forall_eq', forall_eq, forall_const, implies_true, if_true, if_false, exists_eq_left', exists_eq', exists_eq, ne_eq, Try.f47, tb47_25, tb47_60, spArea_q, spArea_A, spArea_pre, spArea_post, spVRings_q, spVRings_A, spVRings_pre, spVRings_post, spEdges_q, spEdges_A, spEdges_pre, spEdges_post, hlt, hk]) | (have hlt2 := of_eq_false hlt; simp (config := { maxSteps := 1000000 }) only [go_sem, ↓ifP_true, ↓ifP_false, ↓ifP_not, Nat.reduceLT, Nat.reduceAdd, Nat.reduceBEq, Nat.reduceSub, Nat.reduceLeDiff, Nat.reduceEqDiff, Nat.reduceMul, Int.reduceToNat, Int.reduceEq, Int.reduceLT, Int.reduceLE, Int.reduceAdd, Int.reduceSub, Int.reduceMul, reduceCtorEq, cond_true, cond_false, forall_eq', forall_eq, forall_const, implies_true, if_true, if_false, exists_eq_left', exists_eq', exists_eq, ne_eq, Try.f47, tb47_25, tb47_60, spArea_q, spArea_A, spArea_pre, spArea_post, spVRings_q, spVRings_A, spVRings_pre, spVRings_post, spEdges_q, spEdges_A, spEdges_pre, spEdges_post, hlt]))
    all_goals
      repeat' (first | apply And.intro | (intro _) | omega | assumption | with_reducible rfl)
  
  all_goals (first | ((rw [takeN hk hinv.1, areaE_snoc, hinv.2.2]); done) | ((rw [if_pos ‹vRings L = true›, hinv.2.2, takeA (by omega)]); done) | ((rw [‹vRings L = false›]; rfl); done))
theorem sat_impl_AreaOf : Sat Try.prog rt0 47 (wkIn spArea) := sat_in (sat_out sat_impl_AreaOf_0)
end Go.Proofs.Ytjjmjidchehffaa
end
section
set_option maxRecDepth 100000
set_option linter.unusedSimpArgs false
set_option linter.unusedVariables false
namespace Go.Proofs.Ytjjmjidchehffaa
open Go Go.VE
theorem area_part2 {L : List (List Pt)} {i k : Int} {r : List Pt} (h : vRings L = true) (hr : L[i.toNat]? = some r) : -3600000000 ≤ areaE (edgesOf (L.take i.toNat) ++ (ringE r).take k.toNat) ∧ areaE (edgesOf (L.take i.toNat) ++ (ringE r).take k.toNat) ≤ 3600000000 := by
  have h0 := vRings_ok h
  have h1 := areaE_bd (es := edgesOf (L.take i.toNat) ++ (ringE r).take k.toNat) fun e he => by
    rcases List.mem_append.1 he with he | he
    · exact edges_ok ⟨fun q hq => h0.all q (List.mem_of_mem_take hq)⟩ e he
    · exact ringE_ok (h0.all r (List.mem_of_getElem? hr)) e (List.mem_of_mem_take he)
  have h2 := total_mem hr
  have h3 := (vRings_len h).2
  have h4 : (edgesOf (L.take i.toNat) ++ (ringE r).take k.toNat).length ≤ 200 := by
    rw [List.length_append, edgesOf_len, List.length_take, ringE_len]; omega
  omega
def tb88 : Nat → Option VE.Spec := tabOf [(63, wkIn spVRings)]
theorem tb88_63 : tb88 63 = some (wkIn spVRings) := rfl
theorem tb88_ok : TabOK Try.prog rt0 tb88 := (tabOf_cons (by kernel_rfl) sat_spec_validRings tabOf_nil)
set_option maxHeartbeats 4000000 in
theorem sat_spec_AreaOf_0 : Sat Try.prog rt0 88 (wkOut spArea) := by
  refine fn_sat hm ttok (tab := tb88) tb88_ok Try.func88 (c := Try.f88.body.getD .skip) (by kernel_rfl) (ts := [.tmp 2]) (by kernel_rfl) Try.ntmps88 (sq := fun _ => true) (by kernel_rfl) ?_
  intro args ins pk hpre0 hpk
  obtain ⟨rfl, hpre0⟩ := hpre0
  obtain ⟨L, rfl, hpre, hdec⟩ := famPre_ex hpre0
  clear hpre0 hdec
  try simp only [spArea_pre] at hpre
  replace hpk : pk + 0 ≤ pickLimit := hpk
  refine ⟨Nat.le_of_ble_eq_true rfl, ?_⟩
  simp (config := { maxSteps := 1000000 }) only [go_sem, ↓ifP_true, ↓ifP_false, ↓ifP_not, Nat.reduceLT, Nat.reduceAdd, Nat.reduceBEq, Nat.reduceSub, Nat.reduceLeDiff, Nat.reduceEqDiff, Nat.reduceMul, Int.reduceToNat, Int.reduceEq, Int.reduceLT, Int.reduceLE, Int.reduceAdd, Int.reduceSub, Int.reduceMul, reduceCtorEq, cond_true, cond_false, forall_eq', forall_eq, forall_const, implies_true, if_true, if_false, exists_eq_left', exists_eq', exists_eq, ne_eq, Try.f88, tb88_63, spArea_q, spArea_A, spArea_pre, spArea_post, spVRings_q, spVRings_A, spVRings_pre, spVRings_post]
  repeat' (first | apply And.intro | (intro _) | omega | assumption | with_reducible rfl)
  any_goals
    refine loopS (α := Int × Int) false [1, 3, 4, 5, 6, 7, 8, 9, 10, 11, 12, 13, 14, 15, 16, 17, 18, 19, 20, 21, 22, 23, 24, 25, 26, 27, 28, 29, 30, 31, 32, 33, 34, 35, 36, 37, 38, 39, 40, 41, 42, 43, 44, 45, 46, 47, 48, 49, 50, 51, 52, 53, 54, 55, 56, 57, 58, 59] (fun σ => []) (fun σ x => [(3, I x.1), (4, I x.2)]) (fun σ x => []) (fun (n, i) => 0) (fun σ => (gI (σ.get 3), gI (σ.get 4))) (fun σ τ => []) (fun (n, i) => 0 ≤ i ∧ i ≤ L.length ∧ n = areaE (edgesOf (L.take i.toNat))) (fun (n, i) => (L.length - i).toNat) ⟨by (simp (config := { maxSteps := 1000000 }) only [go_sem, ↓ifP_true, ↓ifP_false, ↓ifP_not, Nat.reduceLT, Nat.reduceAdd, Nat.reduceBEq, Nat.reduceSub, Nat.reduceLeDiff, Nat.reduceEqDiff, Nat.reduceMul, Int.reduceToNat, Int.reduceEq, Int.reduceLT, Int.reduceLE, Int.reduceAdd, Int.reduceSub, Int.reduceMul, reduceCtorEq, cond_true, cond_false, forall_eq', forall_eq, forall_const, implies_true, if_true, if_false, exists_eq_left', exists_eq', exists_eq, ne_eq, Try.f88, tb88_63, spArea_q, spArea_A, spArea_pre, spArea_post, spVRings_q, spVRings_A, spVRings_pre, spVRings_post]; (repeat' (first | apply And.intro | (intro _) | omega | assumption | with_reducible rfl)); all_goals (first | rfl)), ?_⟩
    rintro ⟨n, i⟩ hinv
    try dsimp only at hinv
    rcases elemAt L i (by omega) with ⟨hlt, r, hk⟩ | hlt
    all_goals (first | ((have hlt2 := of_eq_true hlt); (have hv : vRings L = true := ‹_›); (have hT := total_mem hk); (have h8 := vRings_len hv); all_goals simp (config := { maxSteps := 1000000 }) only [go_sem, ↓ifP_true, ↓ifP_false, ↓ifP_not, Nat.reduceLT, Nat.reduceAdd, Nat.reduceBEq, Nat.reduceSub, Nat.reduceLeDiff, Nat.reduceEqDiff, Nat.reduceMul, Int.reduceToNat, Int.reduceEq, Int.reduceLT, Int.reduceLE, Int.reduceAdd, Int.reduceSub, Int.reduceMul, reduceCtorEq, cond_true, cond_false, forall_eq', forall_eq, forall_const, implies_true, if_true, if_false, exists_eq_left', exists_eq', exists_eq, ne_eq, Try.f88, tb88_63, spArea_q, spArea_A, spArea_pre, spArea_post, spVRings_q, spVRings_A, spVRings_pre, spVRings_post, hlt, hk]) | (have hlt2 := of_eq_false hlt; simp (config := { maxSteps := 1000000 }) only [go_sem, ↓ifP_true, ↓ifP_false, ↓ifP_not, Nat.reduceLT, Nat.reduceAdd, Nat.reduceBEq, Nat.reduceSub, Nat.reduceLeDiff, Nat.reduceEqDiff, Nat.reduceMul, Int.reduceToNat, Int.reduceEq, Int.reduceLT, Int.reduceLE, Int.reduceAdd, Int.reduceSub, Int.reduceMul, reduceCtorEq, cond_true, cond_false, forall_eq', forall_eq, forall_const, implies_true, if_true, if_false, exists_eq_left', exists_eq', exists_eq, ne_eq, Try.f88, tb88_63, spArea_q, spArea_A, spArea_pre, spArea_post, spVRings_q, spVRings_A, spVRings_pre, spVRings_post, hlt]))
    all_goals
      repeat' (first | apply And.intro | (intro _) | omega | assumption | with_reducible rfl)
  
  any_goals
    have hk0 := hk
    have hlt0 := hlt
    refine loopS (α := Int × Int) false [1, 3, 5, 6, 7, 8, 9, 10, 11, 12, 13, 14, 15, 16, 17, 18, 19, 20, 21, 22, 23, 24, 25, 26, 27, 28, 29, 30, 31, 32, 33, 34, 35, 36, 37, 38, 39, 40, 41, 42, 43, 44, 45, 46, 47, 48, 49, 50, 51, 52, 53, 54, 55, 56, 57, 58, 59] (fun σ => []) (fun σ x => [(3, I x.1), (5, I x.2)]) (fun σ x => []) (fun (n, k) => 0) (fun σ => (gI (σ.get 3), gI (σ.get 5))) (fun σ τ => []) (fun (n, k) => 0 ≤ k ∧ k ≤ r.length ∧ n = areaE (edgesOf (L.take i.toNat) ++ (ringE r).take k.toNat)) (fun (n, k) => (r.length - k).toNat) ⟨by (simp (config := { maxSteps := 1000000 }) only [go_sem, ↓ifP_true, ↓ifP_false, ↓ifP_not, Nat.reduceLT, Nat.reduceAdd, Nat.reduceBEq, Nat.reduceSub, Nat.reduceLeDiff, Nat.reduceEqDiff, Nat.reduceMul, Int.reduceToNat, Int.reduceEq, Int.reduceLT, Int.reduceLE, Int.reduceAdd, Int.reduceSub, Int.reduceMul, reduceCtorEq, cond_true, cond_false, forall_eq', forall_eq, forall_const, implies_true, if_true, if_false, exists_eq_left', exists_eq', exists_eq, ne_eq, Try.f88, tb88_63, spArea_q, spArea_A, spArea_pre, spArea_post, spVRings_q, spVRings_A, spVRings_pre, spVRings_post]; (repeat' (first | apply And.intro | (intro _) | omega | assumption | with_reducible rfl)); all_goals (first | exact hinv.2.2 | (simp only [Int.toNat_zero, List.take_zero, List.append_nil]; exact hinv.2.2))), ?_⟩
    rintro ⟨n, k⟩ hinv
    try dsimp only at hinv
    rcases elemAt r k (by omega) with ⟨hlt, p, hk⟩ | hlt
    all_goals (first | ((have hlt2 := of_eq_true hlt); (have hB := area_part2 (k := k) hv hk0); (have hp := ok_at hv hk0 hk); all_goals (first | simp (config := { maxSteps := 1000000 }) only [go_sem, ↓ifP_true, ↓ifP_false, ↓ifP_not, Nat.reduceLT, Nat.reduceAdd, Nat.reduceBEq, Nat.reduceSub, Nat.reduceLeDiff, Nat.reduceEqDiff, Nat.reduceMul, Int.reduceToNat, Int.reduceEq, Int.reduceLT, Int.reduceLE, Int.reduceAdd, Int.reduceSub, Int.reduceMul, reduceCtorEq, cond_true, cond_false, forall_eq', forall_eq, forall_const, implies_true, if_true, if_false, exists_eq_left', exists_eq', exists_eq, ne_eq, Try.f88, tb88_63, spArea_q, spArea_A, spArea_pre, spArea_post, spVRings_q, spVRings_A, spVRings_pre, spVRings_post, hlt, hk, hlt0, hk0] | simp (config := { maxSteps := 1000000 }) only [go_sem, ↓ifP_true, ↓ifP_false, ↓ifP_not, Nat.reduceLT, Nat.reduceAdd, Nat.reduceBEq, Nat.reduceSub, Nat.reduceLeDiff, Nat.reduceEqDiff, Nat.reduceMul, Int.reduceToNat, Int.reduceEq, Int.reduceLT, Int.reduceLE, Int.reduceAdd, Int.reduceSub, Int.reduceMul, reduceCtorEq, cond_true, cond_false, forall_eq', forall_eq, forall_const, implies_true, if_true, if_false, exists_eq_left', exists_eq', exists_eq, ne_eq, Try.f88, tb88_63, spArea_q, spArea_A, spArea_pre, spArea_post, spVRings_q, spVRings_A, spVRings_pre, spVRings_post, hlt, hk])) | (have hlt2 := of_eq_false hlt; (first | simp (config := { maxSteps := 1000000 }) only [go_sem, ↓ifP_true, ↓ifP_false, ↓ifP_not, Nat.reduceLT, Nat.reduceAdd, Nat.reduceBEq, Nat.reduceSub, Nat.reduceLeDiff, Nat.reduceEqDiff, Nat.reduceMul, Int.reduceToNat, Int.reduceEq, Int.reduceLT, Int.reduceLE, Int.reduceAdd, Int.reduceSub, Int.reduceMul, reduceCtorEq, cond_true, cond_false, forall_eq', forall_eq, forall_const, implies_true, if_true, if_false, exists_eq_left', exists_eq', exists_eq, ne_eq, Try.f88, tb88_63, spArea_q, spArea_A, spArea_pre, spArea_post, spVRings_q, spVRings_A, spVRings_pre, spVRings_post, hlt, hlt0, hk0] | simp (config := { maxSteps := 1000000 }) only [go_sem, ↓ifP_true, ↓ifP_false, ↓ifP_not, Nat.reduceLT, Nat.reduceAdd, Nat.reduceBEq, Nat.reduceSub, Nat.reduceLeDiff, Nat.reduceEqDiff, Nat.reduceMul, Int.reduceToNat, Int.reduceEq, Int.reduceLT, Int.reduceLE, Int.reduceAdd, Int.reduceSub, Int.reduceMul, reduceCtorEq, cond_true, cond_false, forall_eq', forall_eq, forall_const, implies_true, if_true, if_false, exists_eq_left', exists_eq', exists_eq, ne_eq, Try.f88, tb88_63, spArea_q, spArea_A, spArea_pre, spArea_post, spVRings_q, spVRings_A, spVRings_pre, spVRings_post, hlt])))
    all_goals
    repeat' (first | apply And.intro | (intro _) | omega | assumption | with_reducible rfl)
  all_goals (first | (exact (tmod_lt (by omega) (by omega)).1; done) | (exact (tmod_lt (by omega) (by omega)).2; done) | ((have h9 := prod_bd (e := ⟨p, ‹Pt›⟩) ⟨hp, ok_at hv hk0 ‹_›⟩; dsimp only at h9; rw [Int.mul_comm p.y] at h9; omega); done) | ((rw [ringE_step hk ‹_› hinv.1, ← List.append_assoc, areaE_snoc, hinv.2.2]; dsimp only; rw [Int.mul_comm p.y]; omega); done) | ((rw [hinv.2.2, takeA (l := ringE r) (by rw [ringE_len]; omega), takeN hk0 (by omega), edgesOf_snoc]); done) | ((rw [if_pos ‹vRings L = true›, hinv.2.2, takeA (by omega)]); done) | ((rw [‹vRings L = false›]; rfl); done))
theorem sat_spec_AreaOf : Sat Try.prog rt0 88 (wkIn spArea) := sat_in (sat_out sat_spec_AreaOf_0)
end Go.Proofs.Ytjjmjidchehffaa
end
section
set_option maxRecDepth 100000
set_option linter.unusedSimpArgs false
set_option linter.unusedVariables false
namespace Go.Proofs.Ytjjmjidchehffaa
open Go Go.VE
def tb29 : Nat → Option VE.Spec := tabOf [(32, wkIn spVPath), (79, wkIn spRings)]
theorem tb29_32 : tb29 32 = some (wkIn spVPath) := rfl
theorem tb29_79 : tb29 79 = some (wkIn spRings) := rfl
theorem tb29_ok : TabOK Try.prog rt0 tb29 := (tabOf_cons (by kernel_rfl) sat_impl_ValidPath (tabOf_cons (by kernel_rfl) sat_impl_rings tabOf_nil))
set_option maxHeartbeats 4000000 in
theorem sat_impl_RingsOf_0 : Sat Try.prog rt0 29 (wkOut spRO) := by
  refine fn_sat hm ttok (tab := tb29) tb29_ok Try.func29 (c := Try.f29.body.getD .skip) (by kernel_rfl) (ts := [.tmp 2]) (by kernel_rfl) Try.ntmps29 (sq := fun _ => true) (by kernel_rfl) ?_
  intro args ins pk hpre0 hpk
  obtain ⟨rfl, hpre0⟩ := hpre0
  obtain ⟨p, rfl, hpre, hdec⟩ := famPre_ex hpre0
  clear hpre0 hdec
  try simp only [spRO_pre] at hpre
  replace hpk : pk + 0 ≤ pickLimit := hpk
  refine ⟨Nat.le_of_ble_eq_true rfl, ?_⟩
  simp (config := { maxSteps := 1000000 }) only [go_sem, ↓ifP_true, ↓ifP_false, ↓ifP_not, Nat.reduceLT, Nat.reduceAdd, Nat.reduceBEq, Nat.reduceSub, Nat.reduceLeDiff, Nat.reduceEqDiff, Nat.reduceMul, Int.reduceToNat, Int.reduceEq, Int.reduceLT, Int.reduceLE, Int.reduceAdd, Int.reduceSub, Int.reduceMul, reduceCtorEq, cond_true, cond_false, forall_eq', forall_eq, forall_const, implies_true, if_true, if_false, exists_eq_left', exists_eq', exists_eq, ne_eq, Try.f29, tb29_32, tb29_79, spRO_q, spRO_A, spRO_pre, spRO_post, spVPath_q, spVPath_A, spVPath_pre, spVPath_post, spRings_q, spRings_A, spRings_pre, spRings_post]
  repeat' (first | apply And.intro | (intro _) | omega | assumption | with_reducible rfl)
  all_goals (first | ((rw [ringsV_yes ‹_›]); done) | ((rw [ringsV_yes ‹_›]; rfl); done) | ((rw [ringsV_no ‹_›]; rfl); done) | ((rw [ringsV_no ‹_›]); done) | ((have h9 := ringsV_len p; omega); done) | ((have h9 := rings_tot2 ‹vPath p = true›; omega); done) | (rfl; done))
theorem sat_impl_RingsOf : Sat Try.prog rt0 29 (wkIn spRO) := sat_in (sat_out sat_impl_RingsOf_0)
def tb33 : Nat → Option VE.Spec := tabOf [(29, wkIn spRO), (47, wkIn spArea)]
theorem tb33_29 : tb33 29 = some (wkIn spRO) := rfl
theorem tb33_47 : tb33 47 = some (wkIn spArea) := rfl
theorem tb33_ok : TabOK Try.prog rt0 tb33 := (tabOf_cons (by kernel_rfl) sat_impl_RingsOf (tabOf_cons (by kernel_rfl) sat_impl_AreaOf tabOf_nil))
set_option maxHeartbeats 4000000 in
theorem sat_impl_PathArea_0 : Sat Try.prog rt0 33 (wkOut spPA) := by
  refine fn_sat hm ttok (tab := tb33) tb33_ok Try.func33 (c := Try.f33.body.getD .skip) (by kernel_rfl) (ts := [.tmp 2]) (by kernel_rfl) Try.ntmps33 (sq := fun _ => true) (by kernel_rfl) ?_
  intro args ins pk hpre0 hpk
  obtain ⟨rfl, hpre0⟩ := hpre0
  obtain ⟨p, rfl, hpre, hdec⟩ := famPre_ex hpre0
  clear hpre0 hdec
  try simp only [spPA_pre] at hpre
  replace hpk : pk + 0 ≤ pickLimit := hpk
  refine ⟨Nat.le_of_ble_eq_true rfl, ?_⟩
  simp (config := { maxSteps := 1000000 }) only [go_sem, ↓ifP_true, ↓ifP_false, ↓ifP_not, Nat.reduceLT, Nat.reduceAdd, Nat.reduceBEq, Nat.reduceSub, Nat.reduceLeDiff, Nat.reduceEqDiff, Nat.reduceMul, Int.reduceToNat, Int.reduceEq, Int.reduceLT, Int.reduceLE, Int.reduceAdd, Int.reduceSub, Int.reduceMul, reduceCtorEq, cond_true, cond_false, forall_eq', forall_eq, forall_const, implies_true, if_true, if_false, exists_eq_left', exists_eq', exists_eq, ne_eq, Try.f33, tb33_29, tb33_47, spPA_q, spPA_A, spPA_pre, spPA_post, spRO_q, spRO_A, spRO_pre, spRO_post, spArea_q, spArea_A, spArea_pre, spArea_post]
  repeat' (first | apply And.intro | (intro _) | omega | assumption | with_reducible rfl)
  all_goals (first | ((rw [ringsV_yes ‹_›]); done) | ((rw [ringsV_yes ‹_›]; rfl); done) | ((rw [ringsV_no ‹_›]; rfl); done) | ((rw [ringsV_no ‹_›]); done) | ((have h9 := ringsV_len p; omega); done) | ((have h9 := rings_tot2 ‹vPath p = true›; omega); done) | (rfl; done))
theorem sat_impl_PathArea : Sat Try.prog rt0 33 (wkIn spPA) := sat_in (sat_out sat_impl_PathArea_0)
end Go.Proofs.Ytjjmjidchehffaa
end
section
set_option maxRecDepth 100000
set_option linter.unusedSimpArgs false
set_option linter.unusedVariables false
namespace Go.Proofs.Ytjjmjidchehffaa
open Go Go.VE
def tb31 : Nat → Option VE.Spec := tabOf [(81, wkIn spVPath), (82, wkIn spRings)]
theorem tb31_81 : tb31 81 = some (wkIn spVPath) := rfl
theorem tb31_82 : tb31 82 = some (wkIn spRings) := rfl
theorem tb31_ok : TabOK Try.prog rt0 tb31 := (tabOf_cons (by kernel_rfl) sat_spec_validPath (tabOf_cons (by kernel_rfl) sat_spec_rings tabOf_nil))
set_option maxHeartbeats 4000000 in
theorem sat_spec_RingsOf_0 : Sat Try.prog rt0 31 (wkOut spRO) := by
  refine fn_sat hm ttok (tab := tb31) tb31_ok Try.func31 (c := Try.f31.body.getD .skip) (by kernel_rfl) (ts := [.tmp 2]) (by kernel_rfl) Try.ntmps31 (sq := fun _ => true) (by kernel_rfl) ?_
  intro args ins pk hpre0 hpk
  obtain ⟨rfl, hpre0⟩ := hpre0
  obtain ⟨p, rfl, hpre, hdec⟩ := famPre_ex hpre0
  clear hpre0 hdec
  try simp only [spRO_pre] at hpre
  replace hpk : pk + 0 ≤ pickLimit := hpk
  refine ⟨Nat.le_of_ble_eq_true rfl, ?_⟩
  simp (config := { maxSteps := 1000000 }) only [go_sem, ↓ifP_true, ↓ifP_false, ↓ifP_not, Nat.reduceLT, Nat.reduceAdd, Nat.reduceBEq, Nat.reduceSub, Nat.reduceLeDiff, Nat.reduceEqDiff, Nat.reduceMul, Int.reduceToNat, Int.reduceEq, Int.reduceLT, Int.reduceLE, Int.reduceAdd, Int.reduceSub, Int.reduceMul, reduceCtorEq, cond_true, cond_false, forall_eq', forall_eq, forall_const, implies_true, if_true, if_false, exists_eq_left', exists_eq', exists_eq, ne_eq, Try.f31, tb31_81, tb31_82, spRO_q, spRO_A, spRO_pre, spRO_post, spVPath_q, spVPath_A, spVPath_pre, spVPath_post, spRings_q, spRings_A, spRings_pre, spRings_post]
  repeat' (first | apply And.intro | (intro _) | omega | assumption | with_reducible rfl)
  all_goals (first | ((rw [ringsV_yes ‹_›]); done) | ((rw [ringsV_yes ‹_›]; rfl); done) | ((rw [ringsV_no ‹_›]; rfl); done) | ((rw [ringsV_no ‹_›]); done) | ((have h9 := ringsV_len p; omega); done) | ((have h9 := rings_tot2 ‹vPath p = true›; omega); done) | (rfl; done))
theorem sat_spec_RingsOf : Sat Try.prog rt0 31 (wkIn spRO) := sat_in (sat_out sat_spec_RingsOf_0)
def tb46 : Nat → Option VE.Spec := tabOf [(81, wkIn spVPath), (82, wkIn spRings), (88, wkIn spArea)]
theorem tb46_81 : tb46 81 = some (wkIn spVPath) := rfl
theorem tb46_82 : tb46 82 = some (wkIn spRings) := rfl
theorem tb46_88 : tb46 88 = some (wkIn spArea) := rfl
theorem tb46_ok : TabOK Try.prog rt0 tb46 := (tabOf_cons (by kernel_rfl) sat_spec_validPath (tabOf_cons (by kernel_rfl) sat_spec_rings (tabOf_cons (by kernel_rfl) sat_spec_AreaOf tabOf_nil)))
set_option maxHeartbeats 4000000 in
theorem sat_spec_PathArea_0 : Sat Try.prog rt0 46 (wkOut spPA) := by
  refine fn_sat hm ttok (tab := tb46) tb46_ok Try.func46 (c := Try.f46.body.getD .skip) (by kernel_rfl) (ts := [.tmp 2]) (by kernel_rfl) Try.ntmps46 (sq := fun _ => true) (by kernel_rfl) ?_
  intro args ins pk hpre0 hpk
  obtain ⟨rfl, hpre0⟩ := hpre0
  obtain ⟨p, rfl, hpre, hdec⟩ := famPre_ex hpre0
  clear hpre0 hdec
  try simp only [spPA_pre] at hpre
  replace hpk : pk + 0 ≤ pickLimit := hpk
  refine ⟨Nat.le_of_ble_eq_true rfl, ?_⟩
  simp (config := { maxSteps := 1000000 }) only [go_sem, ↓ifP_true, ↓ifP_false, ↓ifP_not, Nat.reduceLT, Nat.reduceAdd, Nat.reduceBEq, Nat.reduceSub, Nat.reduceLeDiff, Nat.reduceEqDiff, Nat.reduceMul, Int.reduceToNat, Int.reduceEq, Int.reduceLT, Int.reduceLE, Int.reduceAdd, Int.reduceSub, Int.reduceMul, reduceCtorEq, cond_true, cond_false, forall_eq', forall_eq, forall_const, implies_true, if_true, if_false, exists_eq_left', exists_eq', exists_eq, ne_eq, Try.f46, tb46_81, tb46_82, tb46_88, spPA_q, spPA_A, spPA_pre, spPA_post, spVPath_q, spVPath_A, spVPath_pre, spVPath_post, spRings_q, spRings_A, spRings_pre, spRings_post, spArea_q, spArea_A, spArea_pre, spArea_post]
  repeat' (first | apply And.intro | (intro _) | omega | assumption | with_reducible rfl)
  all_goals (first | ((rw [ringsV_yes ‹_›]); done) | ((rw [ringsV_yes ‹_›]; rfl); done) | ((rw [ringsV_no ‹_›]; rfl); done) | ((rw [ringsV_no ‹_›]); done) | ((have h9 := ringsV_len p; omega); done) | ((have h9 := rings_tot2 ‹vPath p = true›; omega); done) | (rfl; done))
theorem sat_spec_PathArea : Sat Try.prog rt0 46 (wkIn spPA) := sat_in (sat_out sat_spec_PathArea_0)
end Go.Proofs.Ytjjmjidchehffaa
end
section
set_option maxRecDepth 100000
set_option linter.unusedSimpArgs false
set_option linter.unusedVariables false
namespace Go.Proofs.Ytjjmjidchehffaa
open Go Go.VE
def spDRO_A : (List UInt8) → List AV
  | code => [.c (.sl false (byC code))]
def spDRO_pre : (List UInt8) → Prop
  | code => code.length ≤ 1048576
def spDRO_post : (List UInt8) → AV → List Box → Prop
  | code, r, bs => ∃ p : List Verb, r = .c (.sl false (p.map vbC)) ∧ bs = [] ∧ p.length ≤ 31 ∧ nPts p ≤ 100
def spDRO : VE.Spec := famSpecS spDRO_A d_ly spDRO_pre spDRO_post 230 false
theorem spDRO_q : spDRO.flat = false ∧ spDRO.mt = [] ∧ spDRO.shut = true ∧ spDRO.cost = 230 ∧ (∀ a i, spDRO.pre a i = (i = [] ∧ famPre d_ly spDRO_A spDRO_pre a)) ∧ ∀ a i r b, spDRO.post a i r b = (famPost d_ly spDRO_post a r b) := ⟨rfl, rfl, rfl, rfl, fun _ _ => rfl, fun _ _ _ _ => rfl⟩
def tb28 : Nat → Option VE.Spec := tabOf [(48, wkIn spNew), (78, wkIn spAPath)]
theorem tb28_48 : tb28 48 = some (wkIn spNew) := rfl
theorem tb28_78 : tb28 78 = some (wkIn spAPath) := rfl
theorem tb28_ok : TabOK Try.prog rt0 tb28 := (tabOf_cons (by kernel_rfl) sat_spec_newReader (tabOf_cons (by kernel_rfl) sat_spec_anyPath tabOf_nil))
set_option maxHeartbeats 4000000 in
theorem sat_spec_DrawRingsOf_0 : Sat Try.prog rt0 28 (wkOut spDRO) := by
  refine fn_sat hm ttok (tab := tb28) tb28_ok Try.func28 (c := Try.f28.body.getD .skip) (by kernel_rfl) (ts := [.tmp 2]) (by kernel_rfl) Try.ntmps28 (sq := fun _ => true) (by kernel_rfl) ?_
  intro args ins pk hpre0 hpk
  obtain ⟨rfl, hpre0⟩ := hpre0
  obtain ⟨code, rfl, hpre, hdec⟩ := famPre_ex hpre0
  clear hpre0 hdec
  try simp only [spDRO_pre] at hpre
  replace hpk : pk + 230 ≤ pickLimit := hpk
  refine ⟨Nat.le_of_ble_eq_true rfl, ?_⟩
  simp (config := { maxSteps := 1000000 }) only [go_sem, ↓ifP_true, ↓ifP_false, ↓ifP_not, Nat.reduceLT, Nat.reduceAdd, Nat.reduceBEq, Nat.reduceSub, Nat.reduceLeDiff, Nat.reduceEqDiff, Nat.reduceMul, Int.reduceToNat, Int.reduceEq, Int.reduceLT, Int.reduceLE, Int.reduceAdd, Int.reduceSub, Int.reduceMul, reduceCtorEq, cond_true, cond_false, forall_eq', forall_eq, forall_const, implies_true, if_true, if_false, exists_eq_left', exists_eq', exists_eq, ne_eq, Try.f28, tb28_48, tb28_78, spDRO_q, spDRO_A, spDRO_pre, spDRO_post, spNew_q, spAPath_q, spAPath_A, spAPath_pre, spAPath_post]
  repeat' (first | apply And.intro | (intro _) | omega | assumption | with_reducible rfl)
  all_goals (first | (exact ⟨_, _, rfl, rfl, hpre⟩; done) | (exact ⟨_, rfl, rfl, by assumption, by assumption⟩; done))
theorem sat_spec_DrawRingsOf : Sat Try.prog rt0 28 (wkIn spDRO) := sat_in (sat_out sat_spec_DrawRingsOf_0)
def tb45 : Nat → Option VE.Spec := tabOf [(48, wkIn spNew), (78, wkIn spAPath)]
theorem tb45_48 : tb45 48 = some (wkIn spNew) := rfl
theorem tb45_78 : tb45 78 = some (wkIn spAPath) := rfl
theorem tb45_ok : TabOK Try.prog rt0 tb45 := (tabOf_cons (by kernel_rfl) sat_spec_newReader (tabOf_cons (by kernel_rfl) sat_spec_anyPath tabOf_nil))
set_option maxHeartbeats 4000000 in
theorem sat_spec_DrawPathArea_0 : Sat Try.prog rt0 45 (wkOut spDRO) := by
  refine fn_sat hm ttok (tab := tb45) tb45_ok Try.func45 (c := Try.f45.body.getD .skip) (by kernel_rfl) (ts := [.tmp 2]) (by kernel_rfl) Try.ntmps45 (sq := fun _ => true) (by kernel_rfl) ?_
  intro args ins pk hpre0 hpk
  obtain ⟨rfl, hpre0⟩ := hpre0
  obtain ⟨code, rfl, hpre, hdec⟩ := famPre_ex hpre0
  clear hpre0 hdec
  try simp only [spDRO_pre] at hpre
  replace hpk : pk + 230 ≤ pickLimit := hpk
  refine ⟨Nat.le_of_ble_eq_true rfl, ?_⟩
  simp (config := { maxSteps := 1000000 }) only [go_sem, ↓ifP_true, ↓ifP_false, ↓ifP_not, Nat.reduceLT, Nat.reduceAdd, Nat.reduceBEq, Nat.reduceSub, Nat.reduceLeDiff, Nat.reduceEqDiff, Nat.reduceMul, Int.reduceToNat, Int.reduceEq, Int.reduceLT, Int.reduceLE, Int.reduceAdd, Int.reduceSub, Int.reduceMul, reduceCtorEq, cond_true, cond_false, forall_eq', forall_eq, forall_const, implies_true, if_true, if_false, exists_eq_left', exists_eq', exists_eq, ne_eq, Try.f45, tb45_48, tb45_78, spDRO_q, spDRO_A, spDRO_pre, spDRO_post, spNew_q, spAPath_q, spAPath_A, spAPath_pre, spAPath_post]
  repeat' (first | apply And.intro | (intro _) | omega | assumption | with_reducible rfl)
  all_goals (first | (exact ⟨_, _, rfl, rfl, hpre⟩; done) | (exact ⟨_, rfl, rfl, by assumption, by assumption⟩; done))
theorem sat_spec_DrawPathArea : Sat Try.prog rt0 45 (wkIn spDRO) := sat_in (sat_out sat_spec_DrawPathArea_0)
def tb38 : Nat → Option VE.Spec := tabOf [(48, wkIn spNew), (78, wkIn spAPath)]
theorem tb38_48 : tb38 48 = some (wkIn spNew) := rfl
theorem tb38_78 : tb38 78 = some (wkIn spAPath) := rfl
theorem tb38_ok : TabOK Try.prog rt0 tb38 := (tabOf_cons (by kernel_rfl) sat_spec_newReader (tabOf_cons (by kernel_rfl) sat_spec_anyPath tabOf_nil))
set_option maxHeartbeats 4000000 in
theorem sat_spec_DrawReversePath_0 : Sat Try.prog rt0 38 (wkOut spDRO) := by
  refine fn_sat hm ttok (tab := tb38) tb38_ok Try.func38 (c := Try.f38.body.getD .skip) (by kernel_rfl) (ts := [.tmp 2]) (by kernel_rfl) Try.ntmps38 (sq := fun _ => true) (by kernel_rfl) ?_
  intro args ins pk hpre0 hpk
  obtain ⟨rfl, hpre0⟩ := hpre0
  obtain ⟨code, rfl, hpre, hdec⟩ := famPre_ex hpre0
  clear hpre0 hdec
  try simp only [spDRO_pre] at hpre
  replace hpk : pk + 230 ≤ pickLimit := hpk
  refine ⟨Nat.le_of_ble_eq_true rfl, ?_⟩
  simp (config := { maxSteps := 1000000 }) only [go_sem, ↓ifP_true, ↓ifP_false, ↓ifP_not, Nat.reduceLT, Nat.reduceAdd, Nat.reduceBEq, Nat.reduceSub, Nat.reduceLeDiff, Nat.reduceEqDiff, Nat.reduceMul, Int.reduceToNat, Int.reduceEq, Int.reduceLT, Int.reduceLE, Int.reduceAdd, Int.reduceSub, Int.reduceMul, reduceCtorEq, cond_true, cond_false, forall_eq', forall_eq, forall_const, implies_true, if_true, if_false, exists_eq_left', exists_eq', exists_eq, ne_eq, Try.f38, tb38_48, tb38_78, spDRO_q, spDRO_A, spDRO_pre, spDRO_post, spNew_q, spAPath_q, spAPath_A, spAPath_pre, spAPath_post]
  repeat' (first | apply And.intro | (intro _) | omega | assumption | with_reducible rfl)
  all_goals (first | (exact ⟨_, _, rfl, rfl, hpre⟩; done) | (exact ⟨_, rfl, rfl, by assumption, by assumption⟩; done))
theorem sat_spec_DrawReversePath : Sat Try.prog rt0 38 (wkIn spDRO) := sat_in (sat_out sat_spec_DrawReversePath_0)
end Go.Proofs.Ytjjmjidchehffaa
end
