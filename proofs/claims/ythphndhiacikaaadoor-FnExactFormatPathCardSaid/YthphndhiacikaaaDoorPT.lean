/- Contracts of functions of the program vectorraster, each proved for all states that fit its description. No conditions. -/
import Derived.Test.YthphndhiacikaaaDoorT1X0
import Derived.Test.YthphndhiacikaaaDoorPL
set_option linter.unusedSimpArgs false
set_option linter.unusedVariables false
section
set_option maxRecDepth 100000
set_option linter.unusedSimpArgs false
set_option linter.unusedVariables false
namespace Go.Proofs.YthphndhiacikaaaDoor
open Go Go.VE
theorem szV_bad {p : List Verb} {i left q : Int} {v : Verb} (hk : p[i.toNat]? = some v) (hq : q = left - ((p.length : Int) + nPts (p.take i.toNat))) (h : szL v.ps.length q < 0) (h0 : 0 ≤ q) : szL (p.length + nPts p) left = -1 := by
  have h1 := nPts_mem hk
  have h2 : q - v.ps.length < 0 := by
    by_cases h3 : q - v.ps.length < 0
    · exact h3
    · rw [szL_y h3] at h; omega
  apply szL_n
  omega
theorem szV_step {p : List Verb} {i left q : Int} {v : Verb} (hk : p[i.toNat]? = some v) (h0 : 0 ≤ i) (hq : q = left - ((p.length : Int) + nPts (p.take i.toNat))) (h : ¬ szL v.ps.length q < 0) : szL v.ps.length q = left - ((p.length : Int) + nPts (p.take (i + 1).toNat)) := by
  have h1 := nPts_step hk h0
  by_cases h3 : q - v.ps.length < 0
  · rw [szL_n h3] at h; omega
  · rw [szL_y h3, hq]; omega
theorem szV_end {p : List Verb} {i left q : Int} (h : ¬ i < (p.length : Int)) (hq : q = left - ((p.length : Int) + nPts (p.take i.toNat))) (h0 : 0 ≤ q) : szL (p.length + nPts p) left = q := by
  rw [takeA (by omega)] at hq
  rw [szL_y (by omega)]
  omega
def spSzP_A : (List Pt) × Int → List AV
  | (l, left) => [.c (.sl false (l.map ptC)), I left]
def spSzP_pre : (List Pt) × Int → Prop
  | (l, left) => (0 ≤ left ∧ left ≤ 1048576) ∧ l.length ≤ 9223372036854775807
def spSzP_post : (List Pt) × Int → AV → List Box → Prop
  | (l, left), r, bs => r = I (szL l.length left) ∧ bs = []
def spSzP : VE.Spec := famSpec spSzP_A d_lpt_i spSzP_pre spSzP_post 0 true
theorem spSzP_q : spSzP.flat = true ∧ spSzP.mt = [] ∧ spSzP.shut = false ∧ spSzP.cost = 0 ∧ (∀ a i, spSzP.pre a i = (i = [] ∧ famPre d_lpt_i spSzP_A spSzP_pre a)) ∧ ∀ a i r b, spSzP.post a i r b = (famPost d_lpt_i spSzP_post a r b) := ⟨rfl, rfl, rfl, rfl, fun _ _ => rfl, fun _ _ _ _ => rfl⟩
def tb40 : Nat → Option VE.Spec := tabOf []
theorem tb40_ok : TabOK Tryd.prog rt0 tb40 := tabOf_nil
set_option maxHeartbeats 4000000 in
theorem sat_laws_szPointS_0 : Sat Tryd.prog rt0 40 (wkOut spSzP) := by
  refine fn_sat hm ttok (tab := tb40) tb40_ok Tryd.func40 (c := Tryd.f40.body.getD .skip) (by kernel_rfl) (ts := [.tmp 4]) (by kernel_rfl) Tryd.ntmps40 (sq := fun _ => true) (by kernel_rfl) ?_
  intro args ins pk hpre0 hpk
  obtain ⟨rfl, hpre0⟩ := hpre0
  obtain ⟨⟨l, left⟩, rfl, hpre, hdec⟩ := famPre_ex hpre0
  clear hpre0 hdec
  try simp only [spSzP_pre] at hpre
  replace hpk : pk + 0 ≤ pickLimit := hpk
  refine ⟨Nat.le_of_ble_eq_true rfl, ?_⟩
  simp (config := { maxSteps := 1000000 }) only [go_sem, ↓ifP_true, ↓ifP_false, ↓ifP_not, Nat.reduceLT, Nat.reduceAdd, Nat.reduceBEq, Nat.reduceSub, Nat.reduceLeDiff, Nat.reduceEqDiff, Nat.reduceMul, Int.reduceToNat, Int.reduceEq, Int.reduceLT, Int.reduceLE, Int.reduceAdd, Int.reduceSub, Int.reduceMul, reduceCtorEq, cond_true, cond_false, forall_eq', forall_eq, forall_const, implies_true, if_true, if_false, exists_eq_left', exists_eq', exists_eq, ne_eq, Tryd.f40, spSzP_q, spSzP_A, spSzP_pre, spSzP_post]
  repeat' (first | apply And.intro | (intro _) | omega | assumption | with_reducible rfl)
  all_goals (first | ((rw [szL_n ‹_›]); done) | ((rw [szL_y ‹_›]); done) | (exact (szL_n ‹_›).symm; done) | (exact (szL_y ‹_›).symm; done) | (omega; done))
theorem sat_laws_szPointS : Sat Tryd.prog rt0 40 (wkIn spSzP) := sat_in (sat_out sat_laws_szPointS_0)
def spSzV_A : Verb × Int → List AV
  | (v, left) => [.agg (vbC v), I left]
def spSzV_pre : Verb × Int → Prop
  | (v, left) => (0 ≤ left ∧ left ≤ 1048576) ∧ v.ps.length ≤ 9223372036854775807
def spSzV_post : Verb × Int → AV → List Box → Prop
  | (v, left), r, bs => r = I (szL v.ps.length left) ∧ bs = []
def spSzV : VE.Spec := famSpec spSzV_A d_vb_i spSzV_pre spSzV_post 0 true
theorem spSzV_q : spSzV.flat = true ∧ spSzV.mt = [] ∧ spSzV.shut = false ∧ spSzV.cost = 0 ∧ (∀ a i, spSzV.pre a i = (i = [] ∧ famPre d_vb_i spSzV_A spSzV_pre a)) ∧ ∀ a i r b, spSzV.post a i r b = (famPost d_vb_i spSzV_post a r b) := ⟨rfl, rfl, rfl, rfl, fun _ _ => rfl, fun _ _ _ _ => rfl⟩
def tb18 : Nat → Option VE.Spec := tabOf [(40, wkIn spSzP)]
theorem tb18_40 : tb18 40 = some (wkIn spSzP) := rfl
theorem tb18_ok : TabOK Tryd.prog rt0 tb18 := (tabOf_cons (by kernel_rfl) sat_laws_szPointS tabOf_nil)
set_option maxHeartbeats 4000000 in
theorem sat_laws_szVerb_0 : Sat Tryd.prog rt0 18 (wkOut spSzV) := by
  refine fn_sat hm ttok (tab := tb18) tb18_ok Tryd.func18 (c := Tryd.f18.body.getD .skip) (by kernel_rfl) (ts := [.tmp 4]) (by kernel_rfl) Tryd.ntmps18 (sq := fun _ => true) (by kernel_rfl) ?_
  intro args ins pk hpre0 hpk
  obtain ⟨rfl, hpre0⟩ := hpre0
  obtain ⟨⟨v, left⟩, rfl, hpre, hdec⟩ := famPre_ex hpre0
  clear hpre0 hdec
  try simp only [spSzV_pre] at hpre
  replace hpk : pk + 0 ≤ pickLimit := hpk
  refine ⟨Nat.le_of_ble_eq_true rfl, ?_⟩
  simp (config := { maxSteps := 1000000 }) only [go_sem, ↓ifP_true, ↓ifP_false, ↓ifP_not, Nat.reduceLT, Nat.reduceAdd, Nat.reduceBEq, Nat.reduceSub, Nat.reduceLeDiff, Nat.reduceEqDiff, Nat.reduceMul, Int.reduceToNat, Int.reduceEq, Int.reduceLT, Int.reduceLE, Int.reduceAdd, Int.reduceSub, Int.reduceMul, reduceCtorEq, cond_true, cond_false, forall_eq', forall_eq, forall_const, implies_true, if_true, if_false, exists_eq_left', exists_eq', exists_eq, ne_eq, Tryd.f18, tb18_40, spSzV_q, spSzV_A, spSzV_pre, spSzV_post, spSzP_q, spSzP_A, spSzP_pre, spSzP_post]
  repeat' (first | apply And.intro | (intro _) | omega | assumption | with_reducible rfl)
  all_goals (first | ((have h9 := (szL_bd v.ps.length hpre.1); omega); done) | (omega; done))
theorem sat_laws_szVerb : Sat Tryd.prog rt0 18 (wkIn spSzV) := sat_in (sat_out sat_laws_szVerb_0)
def spSzVL_A : (List Verb) × Int → List AV
  | (p, left) => [.c (.sl false (p.map vbC)), I left]
def spSzVL_pre : (List Verb) × Int → Prop
  | (p, left) => (0 ≤ left ∧ left ≤ 1048576) ∧ p.length ≤ 9223372036854775807 ∧ ∀ v ∈ p, v.ps.length ≤ 9223372036854775807
def spSzVL_post : (List Verb) × Int → AV → List Box → Prop
  | (p, left), r, bs => r = I (szL (p.length + nPts p) left) ∧ bs = []
def spSzVL : VE.Spec := famSpec spSzVL_A d_lvb_i spSzVL_pre spSzVL_post 0 true
theorem spSzVL_q : spSzVL.flat = true ∧ spSzVL.mt = [] ∧ spSzVL.shut = false ∧ spSzVL.cost = 0 ∧ (∀ a i, spSzVL.pre a i = (i = [] ∧ famPre d_lvb_i spSzVL_A spSzVL_pre a)) ∧ ∀ a i r b, spSzVL.post a i r b = (famPost d_lvb_i spSzVL_post a r b) := ⟨rfl, rfl, rfl, rfl, fun _ _ => rfl, fun _ _ _ _ => rfl⟩
def tb6 : Nat → Option VE.Spec := tabOf [(18, wkIn spSzV)]
theorem tb6_18 : tb6 18 = some (wkIn spSzV) := rfl
theorem tb6_ok : TabOK Tryd.prog rt0 tb6 := (tabOf_cons (by kernel_rfl) sat_laws_szVerb tabOf_nil)
set_option maxHeartbeats 4000000 in
theorem sat_laws_szVerbS_0 : Sat Tryd.prog rt0 6 (wkOut spSzVL) := by
  refine fn_sat hm ttok (tab := tb6) tb6_ok Tryd.func6 (c := Tryd.f6.body.getD .skip) (by kernel_rfl) (ts := [.tmp 4]) (by kernel_rfl) Tryd.ntmps6 (sq := fun _ => true) (by kernel_rfl) ?_
  intro args ins pk hpre0 hpk
  obtain ⟨rfl, hpre0⟩ := hpre0
  obtain ⟨⟨p, left⟩, rfl, hpre, hdec⟩ := famPre_ex hpre0
  clear hpre0 hdec
  try simp only [spSzVL_pre] at hpre
  replace hpk : pk + 0 ≤ pickLimit := hpk
  refine ⟨Nat.le_of_ble_eq_true rfl, ?_⟩
  simp (config := { maxSteps := 1000000 }) only [go_sem, ↓ifP_true, ↓ifP_false, ↓ifP_not, Nat.reduceLT, Nat.reduceAdd, Nat.reduceBEq, Nat.reduceSub, Nat.reduceLeDiff, Nat.reduceEqDiff, Nat.reduceMul, Int.reduceToNat, Int.reduceEq, Int.reduceLT, Int.reduceLE, Int.reduceAdd, Int.reduceSub, Int.reduceMul, reduceCtorEq, cond_true, cond_false, forall_eq', forall_eq, forall_const, implies_true, if_true, if_false, exists_eq_left', exists_eq', exists_eq, ne_eq, Tryd.f6, tb6_18, spSzVL_q, spSzVL_A, spSzVL_pre, spSzVL_post, spSzV_q, spSzV_A, spSzV_pre, spSzV_post]
  repeat' (first | apply And.intro | (intro _) | omega | assumption | with_reducible rfl)
  any_goals
    refine loopS (α := Int × Int) false [1, 2, 3, 4, 5, 6, 7, 8, 9, 10, 11, 12, 13, 14, 15, 16, 17, 18, 19, 20, 21, 22, 23, 24, 25] (fun σ => []) (fun σ x => [(1, I x.1), (5, I x.2)]) (fun σ x => []) (fun (q, i) => 0) (fun σ => (gI (σ.get 1), gI (σ.get 5))) (fun σ τ => []) (fun (q, i) => (0 ≤ i ∧ i ≤ p.length) ∧ (0 ≤ q ∧ q ≤ 1048576) ∧ q = left - ((p.length : Int) + nPts (p.take i.toNat))) (fun (q, i) => (p.length - i).toNat) ⟨by (simp (config := { maxSteps := 1000000 }) only [go_sem, ↓ifP_true, ↓ifP_false, ↓ifP_not, Nat.reduceLT, Nat.reduceAdd, Nat.reduceBEq, Nat.reduceSub, Nat.reduceLeDiff, Nat.reduceEqDiff, Nat.reduceMul, Int.reduceToNat, Int.reduceEq, Int.reduceLT, Int.reduceLE, Int.reduceAdd, Int.reduceSub, Int.reduceMul, reduceCtorEq, cond_true, cond_false, forall_eq', forall_eq, forall_const, implies_true, if_true, if_false, exists_eq_left', exists_eq', exists_eq, ne_eq, Tryd.f6, tb6_18, spSzVL_q, spSzVL_A, spSzVL_pre, spSzVL_post, spSzV_q, spSzV_A, spSzV_pre, spSzV_post]; (repeat' (first | apply And.intro | (intro _) | omega | assumption | with_reducible rfl)); all_goals (first | omega | (simp [nPts]))), ?_⟩
    rintro ⟨q, i⟩ hinv
    try dsimp only at hinv
    rcases elemAt p i (by omega) with ⟨hlt, v, hk⟩ | hlt
    all_goals (first | ((have hlt2 := of_eq_true hlt); all_goals simp (config := { maxSteps := 1000000 }) only [go_sem, ↓ifP_true, ↓ifP_false, ↓ifP_not, Nat.reduceLT, Nat.reduceAdd, Nat.reduceBEq, Nat.reduceSub, Nat.reduceLeDiff, Nat.reduceEqDiff, Nat.reduceMul, Int.reduceToNat, Int.reduceEq, Int.reduceLT, Int.reduceLE, Int.reduceAdd, Int.reduceSub, Int.reduceMul, reduceCtorEq, cond_true, cond_false, forall_eq', forall_eq, forall_const, implies_true, if_true, if_false, exists_eq_left', exists_eq', exists_eq, ne_eq, Tryd.f6, tb6_18, spSzVL_q, spSzVL_A, spSzVL_pre, spSzVL_post, spSzV_q, spSzV_A, spSzV_pre, spSzV_post, hlt, hk]) | (have hlt2 := of_eq_false hlt; simp (config := { maxSteps := 1000000 }) only [go_sem, ↓ifP_true, ↓ifP_false, ↓ifP_not, Nat.reduceLT, Nat.reduceAdd, Nat.reduceBEq, Nat.reduceSub, Nat.reduceLeDiff, Nat.reduceEqDiff, Nat.reduceMul, Int.reduceToNat, Int.reduceEq, Int.reduceLT, Int.reduceLE, Int.reduceAdd, Int.reduceSub, Int.reduceMul, reduceCtorEq, cond_true, cond_false, forall_eq', forall_eq, forall_const, implies_true, if_true, if_false, exists_eq_left', exists_eq', exists_eq, ne_eq, Tryd.f6, tb6_18, spSzVL_q, spSzVL_A, spSzVL_pre, spSzVL_post, spSzV_q, spSzV_A, spSzV_pre, spSzV_post, hlt]))
    all_goals
      repeat' (first | apply And.intro | (intro _) | omega | assumption | with_reducible rfl)
  
  all_goals (first | ((exact hpre.2.2 v (List.mem_of_getElem? hk)); done) | ((rw [szV_bad hk hinv.2.2 ‹_› hinv.2.1.1]); done) | ((exact (szV_bad hk hinv.2.2 ‹_› hinv.2.1.1).symm); done) | (exact szV_step hk hinv.1.1 hinv.2.2 ‹_›; done) | ((have h9 := szL_bd v.ps.length hinv.2.1; omega); done) | ((rw [szV_end hlt2 hinv.2.2 hinv.2.1.1]); done) | (exact (szV_end hlt2 hinv.2.2 hinv.2.1.1).symm; done) | ((exact (szL_n (by omega)).symm); done) | ((rw [szL_n (by omega)]); done) | (omega; done) | (skip; done))
theorem sat_laws_szVerbS : Sat Tryd.prog rt0 6 (wkIn spSzVL) := sat_in (sat_out sat_laws_szVerbS_0)
def spEqPt_A : Pt × Pt → List AV
  | (a, b) => [.agg (ptC a), .agg (ptC b)]
def spEqPt_pre : Pt × Pt → Prop
  | (a, b) => True
def spEqPt_post : Pt × Pt → AV → List Box → Prop
  | (a, b), r, bs => r = B (decide (a = b)) ∧ bs = []
def spEqPt : VE.Spec := famSpec spEqPt_A d_pt_pt spEqPt_pre spEqPt_post 0 true
theorem spEqPt_q : spEqPt.flat = true ∧ spEqPt.mt = [] ∧ spEqPt.shut = false ∧ spEqPt.cost = 0 ∧ (∀ a i, spEqPt.pre a i = (i = [] ∧ famPre d_pt_pt spEqPt_A spEqPt_pre a)) ∧ ∀ a i r b, spEqPt.post a i r b = (famPost d_pt_pt spEqPt_post a r b) := ⟨rfl, rfl, rfl, rfl, fun _ _ => rfl, fun _ _ _ _ => rfl⟩
def tb71 : Nat → Option VE.Spec := tabOf []
theorem tb71_ok : TabOK Tryd.prog rt0 tb71 := tabOf_nil
set_option maxHeartbeats 4000000 in
theorem sat_laws_eqPoint_0 : Sat Tryd.prog rt0 71 (wkOut spEqPt) := by
  refine fn_sat hm ttok (tab := tb71) tb71_ok Tryd.func71 (c := Tryd.f71.body.getD .skip) (by kernel_rfl) (ts := [.tmp 4]) (by kernel_rfl) Tryd.ntmps71 (sq := fun _ => true) (by kernel_rfl) ?_
  intro args ins pk hpre0 hpk
  obtain ⟨rfl, hpre0⟩ := hpre0
  obtain ⟨⟨a, b⟩, rfl, hpre, hdec⟩ := famPre_ex hpre0
  clear hpre0 hdec
  try simp only [spEqPt_pre] at hpre
  replace hpk : pk + 0 ≤ pickLimit := hpk
  refine ⟨Nat.le_of_ble_eq_true rfl, ?_⟩
  simp (config := { maxSteps := 1000000 }) only [go_sem, ↓ifP_true, ↓ifP_false, ↓ifP_not, Nat.reduceLT, Nat.reduceAdd, Nat.reduceBEq, Nat.reduceSub, Nat.reduceLeDiff, Nat.reduceEqDiff, Nat.reduceMul, Int.reduceToNat, Int.reduceEq, Int.reduceLT, Int.reduceLE, Int.reduceAdd, Int.reduceSub, Int.reduceMul, reduceCtorEq, cond_true, cond_false, forall_eq', forall_eq, forall_const, implies_true, if_true, if_false, exists_eq_left', exists_eq', exists_eq, ne_eq, Tryd.f71, spEqPt_q, spEqPt_A, spEqPt_pre, spEqPt_post]
  repeat' (first | apply And.intro | (intro _) | omega | assumption | with_reducible rfl)
  all_goals (first | ((rw [eq_comm, decide_eq_true_iff, pt_neq]; simp_all; done); done) | ((rw [eq_comm, decide_eq_false_iff_not, pt_neq]; simp_all; done); done) | ((simp_all [pt_neq]; done); done) | (omega; done) | (skip; done))
theorem sat_laws_eqPoint : Sat Tryd.prog rt0 71 (wkIn spEqPt) := sat_in (sat_out sat_laws_eqPoint_0)
def spEqPS_A : (List Pt) × (List Pt) → List AV
  | (a, b) => [.c (.sl false (a.map ptC)), .c (.sl false (b.map ptC))]
def spEqPS_pre : (List Pt) × (List Pt) → Prop
  | (a, b) => a.length ≤ 1000000000 ∧ b.length ≤ 1000000000
def spEqPS_post : (List Pt) × (List Pt) → AV → List Box → Prop
  | (a, b), r, bs => r = B (decide (a = b)) ∧ bs = []
def spEqPS : VE.Spec := famSpec spEqPS_A d_lpt_lpt spEqPS_pre spEqPS_post 0 true
theorem spEqPS_q : spEqPS.flat = true ∧ spEqPS.mt = [] ∧ spEqPS.shut = false ∧ spEqPS.cost = 0 ∧ (∀ a i, spEqPS.pre a i = (i = [] ∧ famPre d_lpt_lpt spEqPS_A spEqPS_pre a)) ∧ ∀ a i r b, spEqPS.post a i r b = (famPost d_lpt_lpt spEqPS_post a r b) := ⟨rfl, rfl, rfl, rfl, fun _ _ => rfl, fun _ _ _ _ => rfl⟩
def tb48 : Nat → Option VE.Spec := tabOf [(71, wkIn spEqPt)]
theorem tb48_71 : tb48 71 = some (wkIn spEqPt) := rfl
theorem tb48_ok : TabOK Tryd.prog rt0 tb48 := (tabOf_cons (by kernel_rfl) sat_laws_eqPoint tabOf_nil)
set_option maxHeartbeats 4000000 in
theorem sat_laws_eqPointS_0 : Sat Tryd.prog rt0 48 (wkOut spEqPS) := by
  refine fn_sat hm ttok (tab := tb48) tb48_ok Tryd.func48 (c := Tryd.f48.body.getD .skip) (by kernel_rfl) (ts := [.tmp 4]) (by kernel_rfl) Tryd.ntmps48 (sq := fun _ => true) (by kernel_rfl) ?_
  intro args ins pk hpre0 hpk
  obtain ⟨rfl, hpre0⟩ := hpre0
  obtain ⟨⟨a, b⟩, rfl, hpre, hdec⟩ := famPre_ex hpre0
  clear hpre0 hdec
  try simp only [spEqPS_pre] at hpre
  replace hpk : pk + 0 ≤ pickLimit := hpk
  refine ⟨Nat.le_of_ble_eq_true rfl, ?_⟩
  simp (config := { maxSteps := 1000000 }) only [go_sem, ↓ifP_true, ↓ifP_false, ↓ifP_not, Nat.reduceLT, Nat.reduceAdd, Nat.reduceBEq, Nat.reduceSub, Nat.reduceLeDiff, Nat.reduceEqDiff, Nat.reduceMul, Int.reduceToNat, Int.reduceEq, Int.reduceLT, Int.reduceLE, Int.reduceAdd, Int.reduceSub, Int.reduceMul, reduceCtorEq, cond_true, cond_false, forall_eq', forall_eq, forall_const, implies_true, if_true, if_false, exists_eq_left', exists_eq', exists_eq, ne_eq, Tryd.f48, tb48_71, spEqPS_q, spEqPS_A, spEqPS_pre, spEqPS_post, spEqPt_q, spEqPt_A, spEqPt_pre, spEqPt_post]
  repeat' (first | apply And.intro | (intro _) | omega | assumption | with_reducible rfl)
  any_goals
    refine loopS (α := Int) false [2, 3, 4, 5, 6, 7, 8, 9, 10, 11, 12, 13, 14, 15, 16, 17, 18, 19, 20, 21, 22, 23, 24, 25, 26] (fun σ => []) (fun σ x => [(5, I x)]) (fun σ x => []) (fun i => 0) (fun σ => gI (σ.get 5)) (fun σ τ => []) (fun i => 0 ≤ i ∧ i ≤ a.length ∧ a.take i.toNat = b.take i.toNat) (fun i => (a.length - i).toNat) ⟨by (simp (config := { maxSteps := 1000000 }) only [go_sem, ↓ifP_true, ↓ifP_false, ↓ifP_not, Nat.reduceLT, Nat.reduceAdd, Nat.reduceBEq, Nat.reduceSub, Nat.reduceLeDiff, Nat.reduceEqDiff, Nat.reduceMul, Int.reduceToNat, Int.reduceEq, Int.reduceLT, Int.reduceLE, Int.reduceAdd, Int.reduceSub, Int.reduceMul, reduceCtorEq, cond_true, cond_false, forall_eq', forall_eq, forall_const, implies_true, if_true, if_false, exists_eq_left', exists_eq', exists_eq, ne_eq, Tryd.f48, tb48_71, spEqPS_q, spEqPS_A, spEqPS_pre, spEqPS_post, spEqPt_q, spEqPt_A, spEqPt_pre, spEqPt_post]; (repeat' (first | apply And.intro | (intro _) | omega | assumption | with_reducible rfl)); all_goals (first | rfl)), ?_⟩
    rintro i hinv
    try dsimp only at hinv
    simp (config := { maxSteps := 1000000 }) only [go_sem, ↓ifP_true, ↓ifP_false, ↓ifP_not, Nat.reduceLT, Nat.reduceAdd, Nat.reduceBEq, Nat.reduceSub, Nat.reduceLeDiff, Nat.reduceEqDiff, Nat.reduceMul, Int.reduceToNat, Int.reduceEq, Int.reduceLT, Int.reduceLE, Int.reduceAdd, Int.reduceSub, Int.reduceMul, reduceCtorEq, cond_true, cond_false, forall_eq', forall_eq, forall_const, implies_true, if_true, if_false, exists_eq_left', exists_eq', exists_eq, ne_eq, Tryd.f48, tb48_71, spEqPS_q, spEqPS_A, spEqPS_pre, spEqPS_post, spEqPt_q, spEqPt_A, spEqPt_pre, spEqPt_post]
    repeat' (first | apply And.intro | (intro _) | omega | assumption | with_reducible rfl)
  
  all_goals (first | (exact eqL_step ‹_› ‹_› ‹_› hinv.1 hinv.2.2; done) | (exact (decide_eq_false (eqL_no ‹_› ‹_› ‹_›)).symm; done) | (exact (decide_eq_true (eqL_end ‹_› ‹_› hinv.2.2)).symm; done) | (exact (decide_eq_false (eqL_len ‹_›)).symm; done))
theorem sat_laws_eqPointS : Sat Tryd.prog rt0 48 (wkIn spEqPS) := sat_in (sat_out sat_laws_eqPointS_0)
def spEqVb_A : Verb × Verb → List AV
  | (a, b) => [.agg (vbC a), .agg (vbC b)]
def spEqVb_pre : Verb × Verb → Prop
  | (a, b) => a.ps.length ≤ 1000000000 ∧ b.ps.length ≤ 1000000000
def spEqVb_post : Verb × Verb → AV → List Box → Prop
  | (a, b), r, bs => r = B (decide (a = b)) ∧ bs = []
def spEqVb : VE.Spec := famSpec spEqVb_A d_vb_vb spEqVb_pre spEqVb_post 0 true
theorem spEqVb_q : spEqVb.flat = true ∧ spEqVb.mt = [] ∧ spEqVb.shut = false ∧ spEqVb.cost = 0 ∧ (∀ a i, spEqVb.pre a i = (i = [] ∧ famPre d_vb_vb spEqVb_A spEqVb_pre a)) ∧ ∀ a i r b, spEqVb.post a i r b = (famPost d_vb_vb spEqVb_post a r b) := ⟨rfl, rfl, rfl, rfl, fun _ _ => rfl, fun _ _ _ _ => rfl⟩
def tb24 : Nat → Option VE.Spec := tabOf [(48, wkIn spEqPS)]
theorem tb24_48 : tb24 48 = some (wkIn spEqPS) := rfl
theorem tb24_ok : TabOK Tryd.prog rt0 tb24 := (tabOf_cons (by kernel_rfl) sat_laws_eqPointS tabOf_nil)
set_option maxHeartbeats 4000000 in
theorem sat_laws_eqVerb_0 : Sat Tryd.prog rt0 24 (wkOut spEqVb) := by
  refine fn_sat hm ttok (tab := tb24) tb24_ok Tryd.func24 (c := Tryd.f24.body.getD .skip) (by kernel_rfl) (ts := [.tmp 4]) (by kernel_rfl) Tryd.ntmps24 (sq := fun _ => true) (by kernel_rfl) ?_
  intro args ins pk hpre0 hpk
  obtain ⟨rfl, hpre0⟩ := hpre0
  obtain ⟨⟨a, b⟩, rfl, hpre, hdec⟩ := famPre_ex hpre0
  clear hpre0 hdec
  try simp only [spEqVb_pre] at hpre
  replace hpk : pk + 0 ≤ pickLimit := hpk
  refine ⟨Nat.le_of_ble_eq_true rfl, ?_⟩
  simp (config := { maxSteps := 1000000 }) only [go_sem, ↓ifP_true, ↓ifP_false, ↓ifP_not, Nat.reduceLT, Nat.reduceAdd, Nat.reduceBEq, Nat.reduceSub, Nat.reduceLeDiff, Nat.reduceEqDiff, Nat.reduceMul, Int.reduceToNat, Int.reduceEq, Int.reduceLT, Int.reduceLE, Int.reduceAdd, Int.reduceSub, Int.reduceMul, reduceCtorEq, cond_true, cond_false, forall_eq', forall_eq, forall_const, implies_true, if_true, if_false, exists_eq_left', exists_eq', exists_eq, ne_eq, Tryd.f24, tb24_48, spEqVb_q, spEqVb_A, spEqVb_pre, spEqVb_post, spEqPS_q, spEqPS_A, spEqPS_pre, spEqPS_post]
  repeat' (first | apply And.intro | (intro _) | omega | assumption | with_reducible rfl)
  all_goals (first | ((rw [eq_comm, decide_eq_true_iff, vb_neq]; simp_all; done); done) | ((rw [eq_comm, decide_eq_false_iff_not, vb_neq]; simp_all; done); done) | ((simp_all [vb_neq]; done); done) | (omega; done) | (skip; done))
theorem sat_laws_eqVerb : Sat Tryd.prog rt0 24 (wkIn spEqVb) := sat_in (sat_out sat_laws_eqVerb_0)
def spEqVL_A : (List Verb) × (List Verb) → List AV
  | (a, b) => [.c (.sl false (a.map vbC)), .c (.sl false (b.map vbC))]
def spEqVL_pre : (List Verb) × (List Verb) → Prop
  | (a, b) => a.length ≤ 1000000000 ∧ b.length ≤ 1000000000 ∧ (∀ v ∈ a, v.ps.length ≤ 1000000000) ∧ ∀ v ∈ b, v.ps.length ≤ 1000000000
def spEqVL_post : (List Verb) × (List Verb) → AV → List Box → Prop
  | (a, b), r, bs => r = B (decide (a = b)) ∧ bs = []
def spEqVL : VE.Spec := famSpec spEqVL_A d_lvb_lvb spEqVL_pre spEqVL_post 0 true
theorem spEqVL_q : spEqVL.flat = true ∧ spEqVL.mt = [] ∧ spEqVL.shut = false ∧ spEqVL.cost = 0 ∧ (∀ a i, spEqVL.pre a i = (i = [] ∧ famPre d_lvb_lvb spEqVL_A spEqVL_pre a)) ∧ ∀ a i r b, spEqVL.post a i r b = (famPost d_lvb_lvb spEqVL_post a r b) := ⟨rfl, rfl, rfl, rfl, fun _ _ => rfl, fun _ _ _ _ => rfl⟩
def tb10 : Nat → Option VE.Spec := tabOf [(24, wkIn spEqVb)]
theorem tb10_24 : tb10 24 = some (wkIn spEqVb) := rfl
theorem tb10_ok : TabOK Tryd.prog rt0 tb10 := (tabOf_cons (by kernel_rfl) sat_laws_eqVerb tabOf_nil)
set_option maxHeartbeats 4000000 in
theorem sat_laws_eqVerbS_0 : Sat Tryd.prog rt0 10 (wkOut spEqVL) := by
  refine fn_sat hm ttok (tab := tb10) tb10_ok Tryd.func10 (c := Tryd.f10.body.getD .skip) (by kernel_rfl) (ts := [.tmp 4]) (by kernel_rfl) Tryd.ntmps10 (sq := fun _ => true) (by kernel_rfl) ?_
  intro args ins pk hpre0 hpk
  obtain ⟨rfl, hpre0⟩ := hpre0
  obtain ⟨⟨a, b⟩, rfl, hpre, hdec⟩ := famPre_ex hpre0
  clear hpre0 hdec
  try simp only [spEqVL_pre] at hpre
  replace hpk : pk + 0 ≤ pickLimit := hpk
  refine ⟨Nat.le_of_ble_eq_true rfl, ?_⟩
  simp (config := { maxSteps := 1000000 }) only [go_sem, ↓ifP_true, ↓ifP_false, ↓ifP_not, Nat.reduceLT, Nat.reduceAdd, Nat.reduceBEq, Nat.reduceSub, Nat.reduceLeDiff, Nat.reduceEqDiff, Nat.reduceMul, Int.reduceToNat, Int.reduceEq, Int.reduceLT, Int.reduceLE, Int.reduceAdd, Int.reduceSub, Int.reduceMul, reduceCtorEq, cond_true, cond_false, forall_eq', forall_eq, forall_const, implies_true, if_true, if_false, exists_eq_left', exists_eq', exists_eq, ne_eq, Tryd.f10, tb10_24, spEqVL_q, spEqVL_A, spEqVL_pre, spEqVL_post, spEqVb_q, spEqVb_A, spEqVb_pre, spEqVb_post]
  repeat' (first | apply And.intro | (intro _) | omega | assumption | with_reducible rfl)
  any_goals
    refine loopS (α := Int) false [2, 3, 4, 5, 6, 7, 8, 9, 10, 11, 12, 13, 14, 15, 16, 17, 18, 19, 20, 21, 22, 23, 24, 25, 26] (fun σ => []) (fun σ x => [(5, I x)]) (fun σ x => []) (fun i => 0) (fun σ => gI (σ.get 5)) (fun σ τ => []) (fun i => 0 ≤ i ∧ i ≤ a.length ∧ a.take i.toNat = b.take i.toNat) (fun i => (a.length - i).toNat) ⟨by (simp (config := { maxSteps := 1000000 }) only [go_sem, ↓ifP_true, ↓ifP_false, ↓ifP_not, Nat.reduceLT, Nat.reduceAdd, Nat.reduceBEq, Nat.reduceSub, Nat.reduceLeDiff, Nat.reduceEqDiff, Nat.reduceMul, Int.reduceToNat, Int.reduceEq, Int.reduceLT, Int.reduceLE, Int.reduceAdd, Int.reduceSub, Int.reduceMul, reduceCtorEq, cond_true, cond_false, forall_eq', forall_eq, forall_const, implies_true, if_true, if_false, exists_eq_left', exists_eq', exists_eq, ne_eq, Tryd.f10, tb10_24, spEqVL_q, spEqVL_A, spEqVL_pre, spEqVL_post, spEqVb_q, spEqVb_A, spEqVb_pre, spEqVb_post]; (repeat' (first | apply And.intro | (intro _) | omega | assumption | with_reducible rfl)); all_goals (first | rfl)), ?_⟩
    rintro i hinv
    try dsimp only at hinv
    simp (config := { maxSteps := 1000000 }) only [go_sem, ↓ifP_true, ↓ifP_false, ↓ifP_not, Nat.reduceLT, Nat.reduceAdd, Nat.reduceBEq, Nat.reduceSub, Nat.reduceLeDiff, Nat.reduceEqDiff, Nat.reduceMul, Int.reduceToNat, Int.reduceEq, Int.reduceLT, Int.reduceLE, Int.reduceAdd, Int.reduceSub, Int.reduceMul, reduceCtorEq, cond_true, cond_false, forall_eq', forall_eq, forall_const, implies_true, if_true, if_false, exists_eq_left', exists_eq', exists_eq, ne_eq, Tryd.f10, tb10_24, spEqVL_q, spEqVL_A, spEqVL_pre, spEqVL_post, spEqVb_q, spEqVb_A, spEqVb_pre, spEqVb_post]
    repeat' (first | apply And.intro | (intro _) | omega | assumption | with_reducible rfl)
  
  all_goals (first | (exact eqL_step ‹_› ‹_› ‹_› hinv.1 hinv.2.2; done) | (exact (decide_eq_false (eqL_no ‹_› ‹_› ‹_›)).symm; done) | (exact (decide_eq_true (eqL_end ‹_› ‹_› hinv.2.2)).symm; done) | (exact (decide_eq_false (eqL_len ‹_›)).symm; done) | (exact hpre.2.2.1 _ (List.mem_of_getElem? ‹_›); done) | (exact hpre.2.2.2 _ (List.mem_of_getElem? ‹_›); done))
theorem sat_laws_eqVerbS : Sat Tryd.prog rt0 10 (wkIn spEqVL) := sat_in (sat_out sat_laws_eqVerbS_0)
end Go.Proofs.YthphndhiacikaaaDoor
end
section
set_option maxRecDepth 100000
set_option linter.unusedSimpArgs false
set_option linter.unusedVariables false
namespace Go.Proofs.YthphndhiacikaaaDoor
open Go Go.VE
theorem nPts_each {p : List Verb} {n : Nat} (h : nPts p ≤ n) : ∀ v ∈ p, v.ps.length ≤ n := by
  intro v hv
  obtain ⟨i, hi⟩ := List.getElem?_of_mem hv
  have := nPts_mem hi
  omega
def spLawV_A : (List Verb) → List AV
  | p => [.c (.sl false (p.map vbC))]
def spLawV_pre : (List Verb) → Prop
  | p => p.length ≤ 9223372036854775807 ∧ ∀ v ∈ p, v.ps.length ≤ 9223372036854775807
def spLawV_post : (List Verb) → AV → List Box → Prop
  | p, r, bs => r = B (true) ∧ bs = []
def spLawV : VE.Spec := famSpec spLawV_A d_lvb spLawV_pre spLawV_post 0 true
theorem spLawV_q : spLawV.flat = true ∧ spLawV.mt = [] ∧ spLawV.shut = false ∧ spLawV.cost = 0 ∧ (∀ a i, spLawV.pre a i = (i = [] ∧ famPre d_lvb spLawV_A spLawV_pre a)) ∧ ∀ a i r b, spLawV.post a i r b = (famPost d_lvb spLawV_post a r b) := ⟨rfl, rfl, rfl, rfl, fun _ _ => rfl, fun _ _ _ _ => rfl⟩
def tb3 : Nat → Option VE.Spec := tabOf [(6, wkIn spSzVL), (8, wkIn spToVL), (7, wkIn spFmt), (9, wkIn spFmt), (10, wkIn spEqVL)]
theorem tb3_6 : tb3 6 = some (wkIn spSzVL) := rfl
theorem tb3_8 : tb3 8 = some (wkIn spToVL) := rfl
theorem tb3_7 : tb3 7 = some (wkIn spFmt) := rfl
theorem tb3_9 : tb3 9 = some (wkIn spFmt) := rfl
theorem tb3_10 : tb3 10 = some (wkIn spEqVL) := rfl
theorem tb3_ok : TabOK Tryd.prog rt0 tb3 := (tabOf_cons (by kernel_rfl) sat_laws_szVerbS (tabOf_cons (by kernel_rfl) sat_laws_toVerbS (tabOf_cons (by kernel_rfl) sat_spec_FormatPath (tabOf_cons (by kernel_rfl) sat_impl_FormatPath (tabOf_cons (by kernel_rfl) sat_laws_eqVerbS tabOf_nil)))))
set_option maxHeartbeats 4000000 in
theorem sat_laws_FnExactFormatPath_0 : Sat Tryd.prog rt0 3 spLawV := by
  refine fn_sat hm ttok (tab := tb3) tb3_ok Tryd.func3 (c := Tryd.f3.body.getD .skip) (by kernel_rfl) (ts := [.tmp 2]) (by kernel_rfl) Tryd.ntmps3 (sq := fun _ => true) (by kernel_rfl) ?_
  intro args ins pk hpre0 hpk
  obtain ⟨rfl, hpre0⟩ := hpre0
  obtain ⟨p, rfl, hpre, hdec⟩ := famPre_ex hpre0
  clear hpre0 hdec
  try simp only [spLawV_pre] at hpre
  replace hpk : pk + 0 ≤ pickLimit := hpk
  refine ⟨Nat.le_of_ble_eq_true rfl, ?_⟩
  simp (config := { maxSteps := 1000000 }) only [go_sem, ↓ifP_true, ↓ifP_false, ↓ifP_not, Nat.reduceLT, Nat.reduceAdd, Nat.reduceBEq, Nat.reduceSub, Nat.reduceLeDiff, Nat.reduceEqDiff, Nat.reduceMul, Int.reduceToNat, Int.reduceEq, Int.reduceLT, Int.reduceLE, Int.reduceAdd, Int.reduceSub, Int.reduceMul, reduceCtorEq, cond_true, cond_false, forall_eq', forall_eq, forall_const, implies_true, if_true, if_false, exists_eq_left', exists_eq', exists_eq, ne_eq, Tryd.f3, tb3_6, tb3_8, tb3_7, tb3_9, tb3_10, spLawV_q, spLawV_A, spLawV_pre, spLawV_post, spSzVL_q, spSzVL_A, spSzVL_pre, spSzVL_post, spToVL_q, spToVL_A, spToVL_pre, spToVL_post, spFmt_q, spFmt_A, spFmt_pre, spFmt_post, spEqVL_q, spEqVL_A, spEqVL_pre, spEqVL_post]
  repeat' (first | apply And.intro | (intro _) | omega | assumption | with_reducible rfl)
  all_goals (first | (exact hpre.2 _ ‹_›; done) | ((have h9 := szL_bd (p.length + nPts p) (left := 1048576) (by omega); omega); done) | ((have h9 := szL_bd (p.length + nPts p) (left := 1048576) (by omega); have h7 := nPts_each (p := p) (n := 1048576) (by omega) _ ‹_ ∈ p›; omega); done) | (simp_all; done) | (skip; done))
theorem sat_laws_FnExactFormatPath : Sat Tryd.prog rt0 3 (wkIn spLawV) := sat_in sat_laws_FnExactFormatPath_0
end Go.Proofs.YthphndhiacikaaaDoor
end
