/- Contracts of functions of the program vectorraster, each proved for all states that fit its description. No conditions. -/
import Derived.Test.YthphndhiacikaaaDoorPXA
import Derived.Test.YthphndhiacikaaaDoorT2W1
import Derived.Test.YthphndhiacikaaaDoorT2X0
import Derived.Test.YthphndhiacikaaaDoorEX
set_option linter.unusedSimpArgs false
set_option linter.unusedVariables false
section
set_option maxRecDepth 100000
set_option linter.unusedSimpArgs false
set_option linter.unusedVariables false
namespace Go.Proofs.YthphndhiacikaaaDoor
open Go Go.VE
theorem eqX_step {α : Type} {a b : List α} {i : Int} {x y : α} (ha : a[i.toNat]? = some x) (hb : b[i.toNat]? = some y) (e : x = y) (h0 : 0 ≤ i) (h : a.take i.toNat = b.take i.toNat) : a.take (i + 1).toNat = b.take (i + 1).toNat := by
  subst e; rw [takeN ha h0, takeN hb h0, h]
theorem eqX_no {α : Type} {a b : List α} {i : Int} {x y : α} (ha : a[i.toNat]? = some x) (hb : b[i.toNat]? = some y) (h : x ≠ y) : a ≠ b := fun e => by
  rw [e, hb] at ha; exact h (Option.some.inj ha).symm
theorem eqX_end {α : Type} {a b : List α} {i : Int} (hl : (a.length : Int) = b.length) (hi : ¬ i < (a.length : Int)) (h : a.take i.toNat = b.take i.toNat) : a = b := by
  rwa [takeA (by omega), takeA (by omega)] at h
theorem eqX_len {α : Type} {a b : List α} (hl : ¬ (a.length : Int) = b.length) : a ≠ b := fun e => hl (by rw [e])
theorem ptX_neq {a b : Pt} : (a = b) ↔ (a.x = b.x ∧ a.y = b.y) := by
  obtain ⟨x, y⟩ := a; obtain ⟨z, w⟩ := b; simp
theorem vbX_neq {a b : Verb} : (a = b) ↔ (a.k = b.k ∧ a.ps = b.ps) := by
  obtain ⟨x, y⟩ := a; obtain ⟨z, w⟩ := b; simp
def spEqPtX_A : Pt × Pt → List AV
  | (a, b) => [.agg (ptC a), .agg (ptC b)]
def spEqPtX_pre : Pt × Pt → Prop
  | (a, b) => True
def spEqPtX_post : Pt × Pt → AV → List Box → Prop
  | (a, b), r, bs => r = B (decide (a = b)) ∧ bs = []
def spEqPtX : VE.Spec := famSpec spEqPtX_A d_pt_pt spEqPtX_pre spEqPtX_post 0 true
theorem spEqPtX_q : spEqPtX.flat = true ∧ spEqPtX.mt = [] ∧ spEqPtX.shut = false ∧ spEqPtX.cost = 0 ∧ (∀ a i, spEqPtX.pre a i = (i = [] ∧ famPre d_pt_pt spEqPtX_A spEqPtX_pre a)) ∧ ∀ a i r b, spEqPtX.post a i r b = (famPost d_pt_pt spEqPtX_post a r b) := ⟨rfl, rfl, rfl, rfl, fun _ _ => rfl, fun _ _ _ _ => rfl⟩
def tb71 : Nat → Option VE.Spec := tabOf []
theorem tb71_ok : TabOK Tryd.prog rt0 tb71 := tabOf_nil
set_option maxHeartbeats 4000000 in
theorem sat_laws_eqPoint_0 : Sat Tryd.prog rt0 71 (wkOut spEqPtX) := by
  refine fn_sat hm ttok (tab := tb71) tb71_ok Tryd.func71 (c := Tryd.f71.body.getD .skip) (by kernel_rfl) (ts := [.tmp 4]) (by kernel_rfl) Tryd.ntmps71 (sq := fun _ => true) (by kernel_rfl) ?_
  intro args ins pk hpre0 hpk
  obtain ⟨rfl, hpre0⟩ := hpre0
  obtain ⟨⟨a, b⟩, rfl, hpre, hdec⟩ := famPre_ex hpre0
  clear hpre0 hdec
  try simp only [spEqPtX_pre] at hpre
  replace hpk : pk + 0 ≤ pickLimit := hpk
  refine ⟨Nat.le_of_ble_eq_true rfl, ?_⟩
  simp (config := { maxSteps := 1000000 }) only [go_sem, ↓ifP_true, ↓ifP_false, ↓ifP_not, Nat.reduceLT, Nat.reduceAdd, Nat.reduceBEq, Nat.reduceSub, Nat.reduceLeDiff, Nat.reduceEqDiff, Nat.reduceMul, Int.reduceToNat, Int.reduceEq, Int.reduceLT, Int.reduceLE, Int.reduceAdd, Int.reduceSub, Int.reduceMul, reduceCtorEq, cond_true, cond_false, forall_eq', forall_eq, forall_const, implies_true, if_true, if_false, exists_eq_left', exists_eq', exists_eq, ne_eq, Tryd.f71, spEqPtX_q, spEqPtX_A, spEqPtX_pre, spEqPtX_post]
  repeat' (first | apply And.intro | (intro _) | omega | assumption | with_reducible rfl)
  all_goals (first | ((rw [eq_comm, decide_eq_true_iff, ptX_neq]; simp_all); done) | ((rw [eq_comm, decide_eq_false_iff_not, ptX_neq]; simp_all); done) | (simp_all [ptX_neq]; done) | (omega; done) | (skip; done))
theorem sat_laws_eqPoint : Sat Tryd.prog rt0 71 (wkIn spEqPtX) := sat_in (sat_out sat_laws_eqPoint_0)
def spEqPsX_A : (List Pt) × (List Pt) → List AV
  | (a, b) => [.c (.sl false (a.map ptC)), .c (.sl false (b.map ptC))]
def spEqPsX_pre : (List Pt) × (List Pt) → Prop
  | (a, b) => a.length ≤ 1000000000 ∧ b.length ≤ 1000000000
def spEqPsX_post : (List Pt) × (List Pt) → AV → List Box → Prop
  | (a, b), r, bs => r = B (decide (a = b)) ∧ bs = []
def spEqPsX : VE.Spec := famSpec spEqPsX_A d_lpt_lpt spEqPsX_pre spEqPsX_post 0 true
theorem spEqPsX_q : spEqPsX.flat = true ∧ spEqPsX.mt = [] ∧ spEqPsX.shut = false ∧ spEqPsX.cost = 0 ∧ (∀ a i, spEqPsX.pre a i = (i = [] ∧ famPre d_lpt_lpt spEqPsX_A spEqPsX_pre a)) ∧ ∀ a i r b, spEqPsX.post a i r b = (famPost d_lpt_lpt spEqPsX_post a r b) := ⟨rfl, rfl, rfl, rfl, fun _ _ => rfl, fun _ _ _ _ => rfl⟩
def tb48 : Nat → Option VE.Spec := tabOf [(71, wkIn spEqPtX)]
theorem tb48_71 : tb48 71 = some (wkIn spEqPtX) := rfl
theorem tb48_ok : TabOK Tryd.prog rt0 tb48 := (tabOf_cons (by kernel_rfl) sat_laws_eqPoint tabOf_nil)
set_option maxHeartbeats 4000000 in
theorem sat_laws_eqPointS_0 : Sat Tryd.prog rt0 48 (wkOut spEqPsX) := by
  refine fn_sat hm ttok (tab := tb48) tb48_ok Tryd.func48 (c := Tryd.f48.body.getD .skip) (by kernel_rfl) (ts := [.tmp 4]) (by kernel_rfl) Tryd.ntmps48 (sq := fun _ => true) (by kernel_rfl) ?_
  intro args ins pk hpre0 hpk
  obtain ⟨rfl, hpre0⟩ := hpre0
  obtain ⟨⟨a, b⟩, rfl, hpre, hdec⟩ := famPre_ex hpre0
  clear hpre0 hdec
  try simp only [spEqPsX_pre] at hpre
  replace hpk : pk + 0 ≤ pickLimit := hpk
  refine ⟨Nat.le_of_ble_eq_true rfl, ?_⟩
  simp (config := { maxSteps := 1000000 }) only [go_sem, ↓ifP_true, ↓ifP_false, ↓ifP_not, Nat.reduceLT, Nat.reduceAdd, Nat.reduceBEq, Nat.reduceSub, Nat.reduceLeDiff, Nat.reduceEqDiff, Nat.reduceMul, Int.reduceToNat, Int.reduceEq, Int.reduceLT, Int.reduceLE, Int.reduceAdd, Int.reduceSub, Int.reduceMul, reduceCtorEq, cond_true, cond_false, forall_eq', forall_eq, forall_const, implies_true, if_true, if_false, exists_eq_left', exists_eq', exists_eq, ne_eq, Tryd.f48, tb48_71, spEqPsX_q, spEqPsX_A, spEqPsX_pre, spEqPsX_post, spEqPtX_q, spEqPtX_A, spEqPtX_pre, spEqPtX_post]
  repeat' (first | apply And.intro | (intro _) | omega | assumption | with_reducible rfl)
  any_goals
    refine loopS (α := Int) false [2, 3, 4, 5, 6, 7, 8, 9, 10, 11, 12, 13, 14, 15, 16, 17, 18, 19, 20, 21, 22, 23, 24, 25, 26] (fun σ => []) (fun σ x => [(5, I x)]) (fun σ x => []) (fun i => 0) (fun σ => gI (σ.get 5)) (fun σ τ => []) (fun i => 0 ≤ i ∧ i ≤ a.length ∧ a.take i.toNat = b.take i.toNat) (fun i => (a.length - i).toNat) ⟨by (simp (config := { maxSteps := 1000000 }) only [go_sem, ↓ifP_true, ↓ifP_false, ↓ifP_not, Nat.reduceLT, Nat.reduceAdd, Nat.reduceBEq, Nat.reduceSub, Nat.reduceLeDiff, Nat.reduceEqDiff, Nat.reduceMul, Int.reduceToNat, Int.reduceEq, Int.reduceLT, Int.reduceLE, Int.reduceAdd, Int.reduceSub, Int.reduceMul, reduceCtorEq, cond_true, cond_false, forall_eq', forall_eq, forall_const, implies_true, if_true, if_false, exists_eq_left', exists_eq', exists_eq, ne_eq, Tryd.f48, tb48_71, spEqPsX_q, spEqPsX_A, spEqPsX_pre, spEqPsX_post, spEqPtX_q, spEqPtX_A, spEqPtX_pre, spEqPtX_post]; (repeat' (first | apply And.intro | (intro _) | omega | assumption | with_reducible rfl)); all_goals (first | rfl)), ?_⟩
    rintro i hinv
    try dsimp only at hinv
    simp (config := { maxSteps := 1000000 }) only [go_sem, ↓ifP_true, ↓ifP_false, ↓ifP_not, Nat.reduceLT, Nat.reduceAdd, Nat.reduceBEq, Nat.reduceSub, Nat.reduceLeDiff, Nat.reduceEqDiff, Nat.reduceMul, Int.reduceToNat, Int.reduceEq, Int.reduceLT, Int.reduceLE, Int.reduceAdd, Int.reduceSub, Int.reduceMul, reduceCtorEq, cond_true, cond_false, forall_eq', forall_eq, forall_const, implies_true, if_true, if_false, exists_eq_left', exists_eq', exists_eq, ne_eq, Tryd.f48, tb48_71, spEqPsX_q, spEqPsX_A, spEqPsX_pre, spEqPsX_post, spEqPtX_q, spEqPtX_A, spEqPtX_pre, spEqPtX_post]
    repeat' (first | apply And.intro | (intro _) | omega | assumption | with_reducible rfl)
  
  all_goals (first | (exact eqX_step ‹_› ‹_› ‹_› hinv.1 hinv.2.2; done) | (exact (decide_eq_false (eqX_no ‹_› ‹_› ‹_›)).symm; done) | (exact (decide_eq_true (eqX_end ‹_› ‹_› hinv.2.2)).symm; done) | (exact (decide_eq_false (eqX_len ‹_›)).symm; done))
theorem sat_laws_eqPointS : Sat Tryd.prog rt0 48 (wkIn spEqPsX) := sat_in (sat_out sat_laws_eqPointS_0)
end Go.Proofs.YthphndhiacikaaaDoor
end
section
set_option maxRecDepth 100000
set_option linter.unusedSimpArgs false
set_option linter.unusedVariables false
namespace Go.Proofs.YthphndhiacikaaaDoor
open Go Go.VE
def spEqVbX_A : Verb × Verb → List AV
  | (a, b) => [.agg (vbC a), .agg (vbC b)]
def spEqVbX_pre : Verb × Verb → Prop
  | (a, b) => a.ps.length ≤ 1000000000 ∧ b.ps.length ≤ 1000000000
def spEqVbX_post : Verb × Verb → AV → List Box → Prop
  | (a, b), r, bs => r = B (decide (a = b)) ∧ bs = []
def spEqVbX : VE.Spec := famSpec spEqVbX_A d_vb_vb spEqVbX_pre spEqVbX_post 0 true
theorem spEqVbX_q : spEqVbX.flat = true ∧ spEqVbX.mt = [] ∧ spEqVbX.shut = false ∧ spEqVbX.cost = 0 ∧ (∀ a i, spEqVbX.pre a i = (i = [] ∧ famPre d_vb_vb spEqVbX_A spEqVbX_pre a)) ∧ ∀ a i r b, spEqVbX.post a i r b = (famPost d_vb_vb spEqVbX_post a r b) := ⟨rfl, rfl, rfl, rfl, fun _ _ => rfl, fun _ _ _ _ => rfl⟩
def tb24 : Nat → Option VE.Spec := tabOf [(48, wkIn spEqPsX)]
theorem tb24_48 : tb24 48 = some (wkIn spEqPsX) := rfl
theorem tb24_ok : TabOK Tryd.prog rt0 tb24 := (tabOf_cons (by kernel_rfl) sat_laws_eqPointS tabOf_nil)
set_option maxHeartbeats 4000000 in
theorem sat_laws_eqVerb_0 : Sat Tryd.prog rt0 24 (wkOut spEqVbX) := by
  refine fn_sat hm ttok (tab := tb24) tb24_ok Tryd.func24 (c := Tryd.f24.body.getD .skip) (by kernel_rfl) (ts := [.tmp 4]) (by kernel_rfl) Tryd.ntmps24 (sq := fun _ => true) (by kernel_rfl) ?_
  intro args ins pk hpre0 hpk
  obtain ⟨rfl, hpre0⟩ := hpre0
  obtain ⟨⟨a, b⟩, rfl, hpre, hdec⟩ := famPre_ex hpre0
  clear hpre0 hdec
  try simp only [spEqVbX_pre] at hpre
  replace hpk : pk + 0 ≤ pickLimit := hpk
  refine ⟨Nat.le_of_ble_eq_true rfl, ?_⟩
  simp (config := { maxSteps := 1000000 }) only [go_sem, ↓ifP_true, ↓ifP_false, ↓ifP_not, Nat.reduceLT, Nat.reduceAdd, Nat.reduceBEq, Nat.reduceSub, Nat.reduceLeDiff, Nat.reduceEqDiff, Nat.reduceMul, Int.reduceToNat, Int.reduceEq, Int.reduceLT, Int.reduceLE, Int.reduceAdd, Int.reduceSub, Int.reduceMul, reduceCtorEq, cond_true, cond_false, forall_eq', forall_eq, forall_const, implies_true, if_true, if_false, exists_eq_left', exists_eq', exists_eq, ne_eq, Tryd.f24, tb24_48, spEqVbX_q, spEqVbX_A, spEqVbX_pre, spEqVbX_post, spEqPsX_q, spEqPsX_A, spEqPsX_pre, spEqPsX_post]
  repeat' (first | apply And.intro | (intro _) | omega | assumption | with_reducible rfl)
  all_goals (first | ((rw [eq_comm, decide_eq_true_iff, vbX_neq]; simp_all); done) | ((rw [eq_comm, decide_eq_false_iff_not, vbX_neq]; simp_all); done) | (simp_all [vbX_neq]; done) | (omega; done) | (skip; done))
theorem sat_laws_eqVerb : Sat Tryd.prog rt0 24 (wkIn spEqVbX) := sat_in (sat_out sat_laws_eqVerb_0)
def spEqVX_A : (List Verb) × (List Verb) → List AV
  | (a, b) => [.c (.sl false (a.map vbC)), .c (.sl false (b.map vbC))]
def spEqVX_pre : (List Verb) × (List Verb) → Prop
  | (a, b) => a.length ≤ 1000000000 ∧ b.length ≤ 1000000000 ∧ nPts a ≤ 1000000000 ∧ nPts b ≤ 1000000000
def spEqVX_post : (List Verb) × (List Verb) → AV → List Box → Prop
  | (a, b), r, bs => r = B (decide (a = b)) ∧ bs = []
def spEqVX : VE.Spec := famSpec spEqVX_A d_lvb_lvb spEqVX_pre spEqVX_post 0 true
theorem spEqVX_q : spEqVX.flat = true ∧ spEqVX.mt = [] ∧ spEqVX.shut = false ∧ spEqVX.cost = 0 ∧ (∀ a i, spEqVX.pre a i = (i = [] ∧ famPre d_lvb_lvb spEqVX_A spEqVX_pre a)) ∧ ∀ a i r b, spEqVX.post a i r b = (famPost d_lvb_lvb spEqVX_post a r b) := ⟨rfl, rfl, rfl, rfl, fun _ _ => rfl, fun _ _ _ _ => rfl⟩
def tb10 : Nat → Option VE.Spec := tabOf [(24, wkIn spEqVbX)]
theorem tb10_24 : tb10 24 = some (wkIn spEqVbX) := rfl
theorem tb10_ok : TabOK Tryd.prog rt0 tb10 := (tabOf_cons (by kernel_rfl) sat_laws_eqVerb tabOf_nil)
set_option maxHeartbeats 4000000 in
theorem sat_laws_eqVerbS_0 : Sat Tryd.prog rt0 10 (wkOut spEqVX) := by
  refine fn_sat hm ttok (tab := tb10) tb10_ok Tryd.func10 (c := Tryd.f10.body.getD .skip) (by kernel_rfl) (ts := [.tmp 4]) (by kernel_rfl) Tryd.ntmps10 (sq := fun _ => true) (by kernel_rfl) ?_
  intro args ins pk hpre0 hpk
  obtain ⟨rfl, hpre0⟩ := hpre0
  obtain ⟨⟨a, b⟩, rfl, hpre, hdec⟩ := famPre_ex hpre0
  clear hpre0 hdec
  try simp only [spEqVX_pre] at hpre
  replace hpk : pk + 0 ≤ pickLimit := hpk
  refine ⟨Nat.le_of_ble_eq_true rfl, ?_⟩
  simp (config := { maxSteps := 1000000 }) only [go_sem, ↓ifP_true, ↓ifP_false, ↓ifP_not, Nat.reduceLT, Nat.reduceAdd, Nat.reduceBEq, Nat.reduceSub, Nat.reduceLeDiff, Nat.reduceEqDiff, Nat.reduceMul, Int.reduceToNat, Int.reduceEq, Int.reduceLT, Int.reduceLE, Int.reduceAdd, Int.reduceSub, Int.reduceMul, reduceCtorEq, cond_true, cond_false, forall_eq', forall_eq, forall_const, implies_true, if_true, if_false, exists_eq_left', exists_eq', exists_eq, ne_eq, Tryd.f10, tb10_24, spEqVX_q, spEqVX_A, spEqVX_pre, spEqVX_post, spEqVbX_q, spEqVbX_A, spEqVbX_pre, spEqVbX_post]
  repeat' (first | apply And.intro | (intro _) | omega | assumption | with_reducible rfl)
  any_goals
    refine loopS (α := Int) false [2, 3, 4, 5, 6, 7, 8, 9, 10, 11, 12, 13, 14, 15, 16, 17, 18, 19, 20, 21, 22, 23, 24, 25, 26] (fun σ => []) (fun σ x => [(5, I x)]) (fun σ x => []) (fun i => 0) (fun σ => gI (σ.get 5)) (fun σ τ => []) (fun i => 0 ≤ i ∧ i ≤ a.length ∧ a.take i.toNat = b.take i.toNat) (fun i => (a.length - i).toNat) ⟨by (simp (config := { maxSteps := 1000000 }) only [go_sem, ↓ifP_true, ↓ifP_false, ↓ifP_not, Nat.reduceLT, Nat.reduceAdd, Nat.reduceBEq, Nat.reduceSub, Nat.reduceLeDiff, Nat.reduceEqDiff, Nat.reduceMul, Int.reduceToNat, Int.reduceEq, Int.reduceLT, Int.reduceLE, Int.reduceAdd, Int.reduceSub, Int.reduceMul, reduceCtorEq, cond_true, cond_false, forall_eq', forall_eq, forall_const, implies_true, if_true, if_false, exists_eq_left', exists_eq', exists_eq, ne_eq, Tryd.f10, tb10_24, spEqVX_q, spEqVX_A, spEqVX_pre, spEqVX_post, spEqVbX_q, spEqVbX_A, spEqVbX_pre, spEqVbX_post]; (repeat' (first | apply And.intro | (intro _) | omega | assumption | with_reducible rfl)); all_goals (first | rfl)), ?_⟩
    rintro i hinv
    try dsimp only at hinv
    rcases elemAt a i (by omega) with ⟨hlt, x, hk⟩ | hlt
    all_goals (first | ((have hlt2 := of_eq_true hlt); (obtain ⟨y, hy⟩ : ∃ y, b[i.toNat]? = some y := ⟨_, List.getElem?_eq_getElem (by omega)⟩); (have h8 := nPts_mem hk); (have h7 := nPts_mem hy); all_goals (first | simp (config := { maxSteps := 1000000 }) only [go_sem, ↓ifP_true, ↓ifP_false, ↓ifP_not, Nat.reduceLT, Nat.reduceAdd, Nat.reduceBEq, Nat.reduceSub, Nat.reduceLeDiff, Nat.reduceEqDiff, Nat.reduceMul, Int.reduceToNat, Int.reduceEq, Int.reduceLT, Int.reduceLE, Int.reduceAdd, Int.reduceSub, Int.reduceMul, reduceCtorEq, cond_true, cond_false, forall_eq', forall_eq, forall_const, implies_true, if_true, if_false, exists_eq_left', exists_eq', exists_eq, ne_eq, Tryd.f10, tb10_24, spEqVX_q, spEqVX_A, spEqVX_pre, spEqVX_post, spEqVbX_q, spEqVbX_A, spEqVbX_pre, spEqVbX_post, hlt, hk, hy] | simp (config := { maxSteps := 1000000 }) only [go_sem, ↓ifP_true, ↓ifP_false, ↓ifP_not, Nat.reduceLT, Nat.reduceAdd, Nat.reduceBEq, Nat.reduceSub, Nat.reduceLeDiff, Nat.reduceEqDiff, Nat.reduceMul, Int.reduceToNat, Int.reduceEq, Int.reduceLT, Int.reduceLE, Int.reduceAdd, Int.reduceSub, Int.reduceMul, reduceCtorEq, cond_true, cond_false, forall_eq', forall_eq, forall_const, implies_true, if_true, if_false, exists_eq_left', exists_eq', exists_eq, ne_eq, Tryd.f10, tb10_24, spEqVX_q, spEqVX_A, spEqVX_pre, spEqVX_post, spEqVbX_q, spEqVbX_A, spEqVbX_pre, spEqVbX_post, hlt, hk])) | (have hlt2 := of_eq_false hlt; (first | simp (config := { maxSteps := 1000000 }) only [go_sem, ↓ifP_true, ↓ifP_false, ↓ifP_not, Nat.reduceLT, Nat.reduceAdd, Nat.reduceBEq, Nat.reduceSub, Nat.reduceLeDiff, Nat.reduceEqDiff, Nat.reduceMul, Int.reduceToNat, Int.reduceEq, Int.reduceLT, Int.reduceLE, Int.reduceAdd, Int.reduceSub, Int.reduceMul, reduceCtorEq, cond_true, cond_false, forall_eq', forall_eq, forall_const, implies_true, if_true, if_false, exists_eq_left', exists_eq', exists_eq, ne_eq, Tryd.f10, tb10_24, spEqVX_q, spEqVX_A, spEqVX_pre, spEqVX_post, spEqVbX_q, spEqVbX_A, spEqVbX_pre, spEqVbX_post, hlt, hy] | simp (config := { maxSteps := 1000000 }) only [go_sem, ↓ifP_true, ↓ifP_false, ↓ifP_not, Nat.reduceLT, Nat.reduceAdd, Nat.reduceBEq, Nat.reduceSub, Nat.reduceLeDiff, Nat.reduceEqDiff, Nat.reduceMul, Int.reduceToNat, Int.reduceEq, Int.reduceLT, Int.reduceLE, Int.reduceAdd, Int.reduceSub, Int.reduceMul, reduceCtorEq, cond_true, cond_false, forall_eq', forall_eq, forall_const, implies_true, if_true, if_false, exists_eq_left', exists_eq', exists_eq, ne_eq, Tryd.f10, tb10_24, spEqVX_q, spEqVX_A, spEqVX_pre, spEqVX_post, spEqVbX_q, spEqVbX_A, spEqVbX_pre, spEqVbX_post, hlt])))
    all_goals
      repeat' (first | apply And.intro | (intro _) | omega | assumption | with_reducible rfl)
  
  all_goals (first | (exact eqX_step hk hy ‹x = y› hinv.1 hinv.2.2; done) | (exact (decide_eq_false (eqX_no hk hy ‹¬ x = y›)).symm; done) | (exact (decide_eq_true (eqX_end ‹_› hlt2 hinv.2.2)).symm; done) | (exact (decide_eq_false (eqX_len ‹_›)).symm; done) | (omega; done) | (skip; done))
theorem sat_laws_eqVerbS : Sat Tryd.prog rt0 10 (wkIn spEqVX) := sat_in (sat_out sat_laws_eqVerbS_0)
end Go.Proofs.YthphndhiacikaaaDoor
end
section
set_option maxRecDepth 100000
set_option linter.unusedSimpArgs false
set_option linter.unusedVariables false
namespace Go.Proofs.YthphndhiacikaaaDoor
open Go Go.VE
def mkP (k : Int) (n : Nat) : List Pt := (List.range n).map fun (j : Nat) => ⟨k + 2 * j, k + 2 * j + 1⟩
theorem mkP_len (k : Int) (n : Nat) : (mkP k n).length = n := by simp [mkP]
theorem mkP_at {l : List Pt} {k i : Int} {c : Pt} (h : l = mkP k l.length) (h0 : 0 ≤ i) (hc : l[i.toNat]? = some c) : c.x = k + 2 * i ∧ c.y = k + 2 * i + 1 := by
  have hl := (List.getElem?_eq_some_iff.1 hc).1
  rw [h, mkP, List.getElem?_map, List.getElem?_range hl] at hc
  have := Option.some.inj hc
  subst this
  have e : ((i.toNat : Nat) : Int) = i := by omega
  dsimp only
  rw [e]
  exact ⟨rfl, rfl⟩
def mkLP (k : Int) (l : List Pt) (i : Int) : List Pt := mkP k i.toNat ++ l.drop i.toNat
theorem mkP_succ (k : Int) (n : Nat) : mkP k (n + 1) = mkP k n ++ [⟨k + 2 * n, k + 2 * n + 1⟩] := by simp [mkP, List.range_succ]
theorem mkLP_len {k i : Int} {l : List Pt} (h : 0 ≤ i ∧ i ≤ (l.length : Int)) : (mkLP k l i).length = l.length := by
  rw [mkLP, List.length_append, mkP_len, List.length_drop]; omega
theorem mkLP_set {k i : Int} {l : List Pt} {y : Pt} (h : 0 ≤ i ∧ i < (l.length : Int)) (hs : mkP k (i.toNat + 1) = mkP k i.toNat ++ [y]) : (mkP k i.toNat ++ l.drop i.toNat).set i.toNat y = mkP k (i + 1).toNat ++ l.drop (i + 1).toNat := by
  rw [show (i + 1).toNat = i.toNat + 1 by omega, hs, List.set_append_right _ _ (by rw [mkP_len]; omega), mkP_len, Nat.sub_self, List.append_assoc]
  congr 1
  rw [List.drop_eq_getElem_cons (by omega)]
  rfl
theorem set_getX {α : Type} {l : List α} {n : Nat} {x y : α} (h : (l.set n x)[n]? = some y) : y = x := by
  have hl := (List.getElem?_eq_some_iff.1 h).1
  rw [List.getElem?_set_self (by simpa using hl)] at h
  exact (Option.some.inj h).symm
theorem mkP_step {l o : List Pt} {k i q : Int} {c1 c2 : Pt} (h0 : 0 ≤ i) (h1 : i < (l.length : Int)) (ho : o = mkLP k l i) (hq : q = k + 2 * i)
    (h2 : (o.set i.toNat ⟨q, c1.y⟩)[i.toNat]? = some c2) : (o.set i.toNat ⟨q, c1.y⟩).set i.toNat ⟨c2.x, q + 1⟩ = mkLP k l (i + 1) := by
  have e2 := set_getX h2
  subst e2
  dsimp only
  simp only [List.set_set]
  subst ho hq
  have e : ((i.toNat : Nat) : Int) = i := by omega
  have := mkLP_set (l := l) ⟨h0, h1⟩ (mkP_succ k i.toNat)
  rw [e] at this
  simp only [mkLP]
  rw [← this]
theorem mkLP_end {l : List Pt} {k i : Int} (h : ¬ i < (l.length : Int)) (h2 : i ≤ (l.length : Int)) : mkLP k l i = mkP k l.length := by
  have e : i.toNat = l.length := by omega
  rw [mkLP, e, List.drop_length, List.append_nil]
theorem ptC_set2 (o : List Pt) (n : Nat) (a b : Int) : (List.map ptC o).set n [C.v (.int .i64 a), C.v (.int .i64 b)] = List.map ptC (o.set n ⟨a, b⟩) := by rw [List.map_set]; rfl
theorem ptC_setm2 (o : List Pt) (n : Nat) (k : Pt) : (List.map ptC o).set n (ptC k) = List.map ptC (o.set n k) := by rw [List.map_set]
/-- A path's marks. -/
def mkV : Int → List Verb → List Verb
  | _, [] => []
  | k, v :: r => ⟨k, mkP (k + 1) v.ps.length⟩ :: mkV (k + 1 + 2 * v.ps.length) r
theorem mkV_get : ∀ (l : List Verb) (k : Int) (i : Nat) (x : Verb), (mkV k l)[i]? = some x → ∃ v, l[i]? = some v ∧ x = ⟨k + i + 2 * nPts (l.take i), mkP (k + i + 2 * nPts (l.take i) + 1) v.ps.length⟩
  | [], k, i, x, h => by simp [mkV] at h
  | v :: r, k, 0, x, h => by
    simp [mkV] at h; subst h
    exact ⟨v, rfl, by simp [nPts]⟩
  | v :: r, k, i + 1, x, h => by
    obtain ⟨u, h1, h2⟩ := mkV_get r (k + 1 + 2 * v.ps.length) i x (by simpa [mkV] using h)
    refine ⟨u, by simpa using h1, ?_⟩
    have e : k + 1 + 2 * (v.ps.length : Int) + i + 2 * nPts (r.take i) = k + (i + 1 : Nat) + 2 * nPts ((v :: r).take (i + 1)) := by
      simp only [nPts, List.take_succ_cons, List.map_cons, List.sum_cons]; omega
    rw [h2, e]
theorem mkV_at {l : List Verb} {k i : Int} {c : Verb} (h : l = mkV k l) (h0 : 0 ≤ i) (hc : l[i.toNat]? = some c) : c.k = k + i + 2 * nPts (l.take i.toNat) ∧ c.ps = mkP (k + i + 2 * nPts (l.take i.toNat) + 1) c.ps.length := by
  have hc2 := hc
  rw [h] at hc2
  obtain ⟨v, h1, h2⟩ := mkV_get l k _ c hc2
  rw [hc] at h1
  cases h1
  rw [show ((i.toNat : Nat) : Int) = i by omega] at h2
  have h3 := congrArg Verb.k h2
  have h4 := congrArg Verb.ps h2
  exact ⟨h3, h4⟩
theorem nPtsX_take {l : List Verb} {i : Int} {c : Verb} (hc : l[i.toNat]? = some c) (h0 : 0 ≤ i) : nPts (l.take (i + 1).toNat) = nPts (l.take i.toNat) + c.ps.length := by
  rw [takeN hc h0]; simp [nPts]
theorem nPts_le2 (l : List Verb) (n : Nat) : nPts (l.take n) ≤ nPts l := by
  have e : nPts l = nPts (l.take n) + nPts (l.drop n) := by
    simp only [nPts, List.map_take, List.map_drop]
    rw [← List.sum_append, List.take_append_drop]
  omega
theorem nPts_end {l : List Verb} {i : Int} (h : (l.length : Int) ≤ i) : nPts (l.take i.toNat) = nPts l := by rw [List.take_of_length_le (by omega)]
theorem mkV_len : ∀ (l : List Verb) (k : Int), (mkV k l).length = l.length
  | [], _ => rfl
  | v :: r, k => by simp [mkV, mkV_len r]
theorem mkV_np : ∀ (l : List Verb) (k : Int), nPts (mkV k l) = nPts l
  | [], _ => rfl
  | v :: r, k => by
    have := mkV_np r (k + 1 + 2 * v.ps.length)
    simp only [nPts] at this
    simp [mkV, nPts, mkP_len, this]
theorem mkV_mkV : ∀ (l : List Verb) (k : Int), mkV k (mkV k l) = mkV k l
  | [], _ => rfl
  | v :: r, k => by simp [mkV, mkP_len, mkV_mkV r]
theorem mkV_snoc : ∀ (l : List Verb) (k : Int) (v : Verb), mkV k (l ++ [v]) = mkV k l ++ [⟨k + l.length + 2 * nPts l, mkP (k + l.length + 2 * nPts l + 1) v.ps.length⟩]
  | [], k, v => by simp [mkV, nPts]
  | u :: r, k, v => by
    have e : k + 1 + 2 * (u.ps.length : Int) + r.length + 2 * nPts r = k + ((u :: r).length : Nat) + 2 * nPts (u :: r) := by
      simp only [nPts, List.map_cons, List.sum_cons, List.length_cons]; omega
    rw [List.cons_append, mkV, mkV_snoc r, mkV, List.cons_append, e]
def spMkP_A : List Pt × Int → List AV
  | (l, k) => [.c (.own 0 l.length false), I k]
def spMkP_B : List Pt × Int → List Box
  | (l, k) => [⟨l.map ptC, 2, 47, true, false⟩]
def spMkP_d : List AV → List Box → Option (List Pt × Int)
  | [.c (.own 0 _ false), .c (.v (.int .i64 k))], [⟨es, _, _, _, _⟩] => match decAll ptCd es with
    | some l => some (l, k)
    | none => none
  | _, _ => none
def spMkP_pre : List Pt × Int → Prop
  | (l, k) => (0 ≤ k ∧ k ≤ 1000000000000000) ∧ l.length ≤ 1000000000
def spMkP_post : List Pt × Int → AV → List Box → Prop
  | (l, k), r, bs => r = I (k + 2 * l.length) ∧ bs = [⟨(mkP k l.length).map ptC, 2, 47, true, false⟩]
def spMkP : VE.Spec := famSpecM spMkP_A spMkP_B spMkP_d spMkP_pre spMkP_post 0 false [true] false
theorem spMkP_q : spMkP.flat = false ∧ spMkP.mt = [true] ∧ spMkP.shut = false ∧ spMkP.cost = 0 ∧ (∀ a i, spMkP.pre a i = (famPreM spMkP_d spMkP_A spMkP_B spMkP_pre a i)) ∧ ∀ a i r b, spMkP.post a i r b = (famPostM spMkP_d spMkP_post a i r b) := ⟨rfl, rfl, rfl, rfl, fun _ _ => rfl, fun _ _ _ _ => rfl⟩
def tb38 : Nat → Option VE.Spec := tabOf []
theorem tb38_ok : TabOK Tryd.prog rt0 tb38 := tabOf_nil
set_option maxHeartbeats 4000000 in
theorem sat_laws_markPointS_0 : Sat Tryd.prog rt0 38 (wkOut spMkP) := by
  refine fn_sat hm ttok (tab := tb38) tb38_ok Tryd.func38 (c := Tryd.f38.body.getD .skip) (by kernel_rfl) (ts := [.tmp 4]) (by kernel_rfl) Tryd.ntmps38 (sq := fun _ => true) (by kernel_rfl) ?_
  intro args ins pk hpre0 hpk
  obtain ⟨⟨l, k⟩, rfl, rfl, hpre, hdec⟩ := famPreM_ex hpre0
  clear hpre0 hdec
  try simp only [spMkP_pre] at hpre
  replace hpk : pk + 0 ≤ pickLimit := hpk
  refine ⟨Nat.le_of_ble_eq_true rfl, ?_⟩
  simp (config := { maxSteps := 1000000 }) only [go_sem, ↓ifP_true, ↓ifP_false, ↓ifP_not, Nat.reduceLT, Nat.reduceAdd, Nat.reduceBEq, Nat.reduceSub, Nat.reduceLeDiff, Nat.reduceEqDiff, Nat.reduceMul, Int.reduceToNat, Int.reduceEq, Int.reduceLT, Int.reduceLE, Int.reduceAdd, Int.reduceSub, Int.reduceMul, reduceCtorEq, cond_true, cond_false, forall_eq', forall_eq, forall_const, implies_true, if_true, if_false, exists_eq_left', exists_eq', exists_eq, ne_eq, Tryd.f38, spMkP_q, spMkP_A, spMkP_B, spMkP_d, spMkP_pre, spMkP_post, ptC_set2, ptC_setm2]
  repeat' (first | apply And.intro | (intro _) | omega | assumption | with_reducible rfl)
  any_goals
    refine loopS (α := (List Pt) × Int × Int) false [1, 2, 3, 5, 6, 7, 8, 9, 10, 11, 12, 13, 14, 15, 16, 17, 18, 19, 20, 21, 22, 23, 24, 25] (fun σ => [0]) (fun σ x => [(5, I x.2.1), (1, I x.2.2)]) (fun σ x => [(0, some ⟨(x.1).map ptC, 2, 47, true, false⟩)]) (fun (o, i, q) => 0) (fun σ => (gL ptCd σ (.c (.own 0 (boxN σ 0).es.length false)), gI (σ.get 5), gI (σ.get 1))) (fun σ τ => []) (fun (o, i, q) => (0 ≤ i ∧ i ≤ l.length) ∧ o = mkLP k l i ∧ q = k + 2 * i) (fun (o, i, q) => (l.length - i).toNat) ⟨by (simp (config := { maxSteps := 1000000 }) only [go_sem, ↓ifP_true, ↓ifP_false, ↓ifP_not, Nat.reduceLT, Nat.reduceAdd, Nat.reduceBEq, Nat.reduceSub, Nat.reduceLeDiff, Nat.reduceEqDiff, Nat.reduceMul, Int.reduceToNat, Int.reduceEq, Int.reduceLT, Int.reduceLE, Int.reduceAdd, Int.reduceSub, Int.reduceMul, reduceCtorEq, cond_true, cond_false, forall_eq', forall_eq, forall_const, implies_true, if_true, if_false, exists_eq_left', exists_eq', exists_eq, ne_eq, Tryd.f38, spMkP_q, spMkP_A, spMkP_B, spMkP_d, spMkP_pre, spMkP_post, ptC_set2, ptC_setm2]; (repeat' (first | apply And.intro | (intro _) | omega | assumption | with_reducible rfl)); all_goals (first | rfl | omega | skip)), ?_⟩
    rintro ⟨o, i, q⟩ hinv
    try dsimp only at hinv
    simp (config := { maxSteps := 1000000 }) only [go_sem, ↓ifP_true, ↓ifP_false, ↓ifP_not, Nat.reduceLT, Nat.reduceAdd, Nat.reduceBEq, Nat.reduceSub, Nat.reduceLeDiff, Nat.reduceEqDiff, Nat.reduceMul, Int.reduceToNat, Int.reduceEq, Int.reduceLT, Int.reduceLE, Int.reduceAdd, Int.reduceSub, Int.reduceMul, reduceCtorEq, cond_true, cond_false, forall_eq', forall_eq, forall_const, implies_true, if_true, if_false, exists_eq_left', exists_eq', exists_eq, ne_eq, Tryd.f38, spMkP_q, spMkP_A, spMkP_B, spMkP_d, spMkP_pre, spMkP_post, ptC_set2, ptC_setm2]
    have hol : o.length = l.length := by rw [hinv.2.1]; exact mkLP_len hinv.1
    repeat' (first | apply And.intro | (intro _) | omega | assumption | with_reducible rfl)
  
  all_goals (first | (omega; done) | (exact mkP_step hinv.1.1 ‹_› hinv.2.1 hinv.2.2 ‹_›; done) | (exact hinv.2.1.trans (mkLP_end ‹_› hinv.1.2); done) | (skip; done))
theorem sat_laws_markPointS : Sat Tryd.prog rt0 38 (wkIn spMkP) := sat_in (sat_out sat_laws_markPointS_0)
def spHeP_A : (List Pt) × Int → List AV
  | (l, k) => [.c (.sl false (l.map ptC)), I k]
def spHeP_pre : (List Pt) × Int → Prop
  | (l, k) => (0 ≤ k ∧ k ≤ 1000000000000000) ∧ l.length ≤ 1000000000 ∧ l = mkP k l.length
def spHeP_post : (List Pt) × Int → AV → List Box → Prop
  | (l, k), r, bs => r = I (k + 2 * l.length) ∧ bs = []
def spHeP : VE.Spec := famSpec spHeP_A d_lpt_i spHeP_pre spHeP_post 0 true
theorem spHeP_q : spHeP.flat = true ∧ spHeP.mt = [] ∧ spHeP.shut = false ∧ spHeP.cost = 0 ∧ (∀ a i, spHeP.pre a i = (i = [] ∧ famPre d_lpt_i spHeP_A spHeP_pre a)) ∧ ∀ a i r b, spHeP.post a i r b = (famPost d_lpt_i spHeP_post a r b) := ⟨rfl, rfl, rfl, rfl, fun _ _ => rfl, fun _ _ _ _ => rfl⟩
def tb39 : Nat → Option VE.Spec := tabOf []
theorem tb39_ok : TabOK Tryd.prog rt0 tb39 := tabOf_nil
set_option maxHeartbeats 4000000 in
theorem sat_laws_heldPointS_0 : Sat Tryd.prog rt0 39 (wkOut spHeP) := by
  refine fn_sat hm ttok (tab := tb39) tb39_ok Tryd.func39 (c := Tryd.f39.body.getD .skip) (by kernel_rfl) (ts := [.tmp 4]) (by kernel_rfl) Tryd.ntmps39 (sq := fun _ => true) (by kernel_rfl) ?_
  intro args ins pk hpre0 hpk
  obtain ⟨rfl, hpre0⟩ := hpre0
  obtain ⟨⟨l, k⟩, rfl, hpre, hdec⟩ := famPre_ex hpre0
  clear hpre0 hdec
  try simp only [spHeP_pre] at hpre
  replace hpk : pk + 0 ≤ pickLimit := hpk
  refine ⟨Nat.le_of_ble_eq_true rfl, ?_⟩
  simp (config := { maxSteps := 1000000 }) only [go_sem, ↓ifP_true, ↓ifP_false, ↓ifP_not, Nat.reduceLT, Nat.reduceAdd, Nat.reduceBEq, Nat.reduceSub, Nat.reduceLeDiff, Nat.reduceEqDiff, Nat.reduceMul, Int.reduceToNat, Int.reduceEq, Int.reduceLT, Int.reduceLE, Int.reduceAdd, Int.reduceSub, Int.reduceMul, reduceCtorEq, cond_true, cond_false, forall_eq', forall_eq, forall_const, implies_true, if_true, if_false, exists_eq_left', exists_eq', exists_eq, ne_eq, Tryd.f39, spHeP_q, spHeP_A, spHeP_pre, spHeP_post]
  repeat' (first | apply And.intro | (intro _) | omega | assumption | with_reducible rfl)
  any_goals
    refine loopS (α := Int × Int) false [1, 2, 3, 4, 5, 6, 7, 8, 9, 10, 11, 12, 13, 14, 15, 16, 17, 18, 19, 20, 21, 22, 23, 24, 25, 26, 27, 28, 29] (fun σ => []) (fun σ x => [(5, I x.1), (1, I x.2)]) (fun σ x => []) (fun (i, q) => 0) (fun σ => (gI (σ.get 5), gI (σ.get 1))) (fun σ τ => []) (fun (i, q) => (0 ≤ i ∧ i ≤ l.length) ∧ q = k + 2 * i) (fun (i, q) => (l.length - i).toNat) ⟨by (simp (config := { maxSteps := 1000000 }) only [go_sem, ↓ifP_true, ↓ifP_false, ↓ifP_not, Nat.reduceLT, Nat.reduceAdd, Nat.reduceBEq, Nat.reduceSub, Nat.reduceLeDiff, Nat.reduceEqDiff, Nat.reduceMul, Int.reduceToNat, Int.reduceEq, Int.reduceLT, Int.reduceLE, Int.reduceAdd, Int.reduceSub, Int.reduceMul, reduceCtorEq, cond_true, cond_false, forall_eq', forall_eq, forall_const, implies_true, if_true, if_false, exists_eq_left', exists_eq', exists_eq, ne_eq, Tryd.f39, spHeP_q, spHeP_A, spHeP_pre, spHeP_post]; (repeat' (first | apply And.intro | (intro _) | omega | assumption | with_reducible rfl)); all_goals (first | omega)), ?_⟩
    rintro ⟨i, q⟩ hinv
    try dsimp only at hinv
    rcases elemAt l i (by omega) with ⟨hlt, c, hk⟩ | hlt
    all_goals (first | ((have hlt2 := of_eq_true hlt); (have hmk := mkP_at hpre.2.2 hinv.1.1 hk); all_goals simp (config := { maxSteps := 1000000 }) only [go_sem, ↓ifP_true, ↓ifP_false, ↓ifP_not, Nat.reduceLT, Nat.reduceAdd, Nat.reduceBEq, Nat.reduceSub, Nat.reduceLeDiff, Nat.reduceEqDiff, Nat.reduceMul, Int.reduceToNat, Int.reduceEq, Int.reduceLT, Int.reduceLE, Int.reduceAdd, Int.reduceSub, Int.reduceMul, reduceCtorEq, cond_true, cond_false, forall_eq', forall_eq, forall_const, implies_true, if_true, if_false, exists_eq_left', exists_eq', exists_eq, ne_eq, Tryd.f39, spHeP_q, spHeP_A, spHeP_pre, spHeP_post, hlt, hk]) | (have hlt2 := of_eq_false hlt; simp (config := { maxSteps := 1000000 }) only [go_sem, ↓ifP_true, ↓ifP_false, ↓ifP_not, Nat.reduceLT, Nat.reduceAdd, Nat.reduceBEq, Nat.reduceSub, Nat.reduceLeDiff, Nat.reduceEqDiff, Nat.reduceMul, Int.reduceToNat, Int.reduceEq, Int.reduceLT, Int.reduceLE, Int.reduceAdd, Int.reduceSub, Int.reduceMul, reduceCtorEq, cond_true, cond_false, forall_eq', forall_eq, forall_const, implies_true, if_true, if_false, exists_eq_left', exists_eq', exists_eq, ne_eq, Tryd.f39, spHeP_q, spHeP_A, spHeP_pre, spHeP_post, hlt]))
    all_goals
      repeat' (first | apply And.intro | (intro _) | omega | assumption | with_reducible rfl)
  
  all_goals (first | (omega; done) | (skip; done))
theorem sat_laws_heldPointS : Sat Tryd.prog rt0 39 (wkIn spHeP) := sat_in (sat_out sat_laws_heldPointS_0)
end Go.Proofs.YthphndhiacikaaaDoor
end
section
set_option maxRecDepth 100000
set_option linter.unusedSimpArgs false
set_option linter.unusedVariables false
namespace Go.Proofs.YthphndhiacikaaaDoor
open Go Go.VE
def spHeV_A : (List Verb) × Int → List AV
  | (l, k) => [.c (.sl false (l.map vbC)), I k]
def spHeV_pre : (List Verb) × Int → Prop
  | (l, k) => (0 ≤ k ∧ k ≤ 1000000) ∧ l.length ≤ 1000000 ∧ nPts l ≤ 1000000 ∧ l = mkV k l
def spHeV_post : (List Verb) × Int → AV → List Box → Prop
  | (l, k), r, bs => r = I (k + l.length + 2 * nPts l) ∧ bs = []
def spHeV : VE.Spec := famSpec spHeV_A d_lvb_i spHeV_pre spHeV_post 0 true
theorem spHeV_q : spHeV.flat = true ∧ spHeV.mt = [] ∧ spHeV.shut = false ∧ spHeV.cost = 0 ∧ (∀ a i, spHeV.pre a i = (i = [] ∧ famPre d_lvb_i spHeV_A spHeV_pre a)) ∧ ∀ a i r b, spHeV.post a i r b = (famPost d_lvb_i spHeV_post a r b) := ⟨rfl, rfl, rfl, rfl, fun _ _ => rfl, fun _ _ _ _ => rfl⟩
def tb17 : Nat → Option VE.Spec := tabOf [(39, wkIn spHeP)]
theorem tb17_39 : tb17 39 = some (wkIn spHeP) := rfl
theorem tb17_ok : TabOK Tryd.prog rt0 tb17 := (tabOf_cons (by kernel_rfl) sat_laws_heldPointS tabOf_nil)
set_option maxHeartbeats 4000000 in
theorem sat_laws_heldVerbS_0 : Sat Tryd.prog rt0 17 (wkOut spHeV) := by
  refine fn_sat hm ttok (tab := tb17) tb17_ok Tryd.func17 (c := Tryd.f17.body.getD .skip) (by kernel_rfl) (ts := [.tmp 4]) (by kernel_rfl) Tryd.ntmps17 (sq := fun _ => true) (by kernel_rfl) ?_
  intro args ins pk hpre0 hpk
  obtain ⟨rfl, hpre0⟩ := hpre0
  obtain ⟨⟨l, k⟩, rfl, hpre, hdec⟩ := famPre_ex hpre0
  clear hpre0 hdec
  try simp only [spHeV_pre] at hpre
  replace hpk : pk + 0 ≤ pickLimit := hpk
  refine ⟨Nat.le_of_ble_eq_true rfl, ?_⟩
  simp (config := { maxSteps := 1000000 }) only [go_sem, ↓ifP_true, ↓ifP_false, ↓ifP_not, Nat.reduceLT, Nat.reduceAdd, Nat.reduceBEq, Nat.reduceSub, Nat.reduceLeDiff, Nat.reduceEqDiff, Nat.reduceMul, Int.reduceToNat, Int.reduceEq, Int.reduceLT, Int.reduceLE, Int.reduceAdd, Int.reduceSub, Int.reduceMul, reduceCtorEq, cond_true, cond_false, forall_eq', forall_eq, forall_const, implies_true, if_true, if_false, exists_eq_left', exists_eq', exists_eq, ne_eq, Tryd.f17, tb17_39, spHeV_q, spHeV_A, spHeV_pre, spHeV_post, spHeP_q, spHeP_A, spHeP_pre, spHeP_post]
  repeat' (first | apply And.intro | (intro _) | omega | assumption | with_reducible rfl)
  any_goals
    refine loopS (α := Int × Int) false [1, 2, 3, 4, 5, 6, 7, 8, 9, 10, 11, 12, 13, 14, 15, 16, 17, 18, 19, 20, 21, 22, 23, 24, 25, 26, 27, 28, 29] (fun σ => []) (fun σ x => [(5, I x.1), (1, I x.2)]) (fun σ x => []) (fun (i, q) => 0) (fun σ => (gI (σ.get 5), gI (σ.get 1))) (fun σ τ => []) (fun (i, q) => (0 ≤ i ∧ i ≤ l.length) ∧ q = k + i + 2 * nPts (l.take i.toNat)) (fun (i, q) => (l.length - i).toNat) ⟨by (simp (config := { maxSteps := 1000000 }) only [go_sem, ↓ifP_true, ↓ifP_false, ↓ifP_not, Nat.reduceLT, Nat.reduceAdd, Nat.reduceBEq, Nat.reduceSub, Nat.reduceLeDiff, Nat.reduceEqDiff, Nat.reduceMul, Int.reduceToNat, Int.reduceEq, Int.reduceLT, Int.reduceLE, Int.reduceAdd, Int.reduceSub, Int.reduceMul, reduceCtorEq, cond_true, cond_false, forall_eq', forall_eq, forall_const, implies_true, if_true, if_false, exists_eq_left', exists_eq', exists_eq, ne_eq, Tryd.f17, tb17_39, spHeV_q, spHeV_A, spHeV_pre, spHeV_post, spHeP_q, spHeP_A, spHeP_pre, spHeP_post]; (repeat' (first | apply And.intro | (intro _) | omega | assumption | with_reducible rfl)); all_goals (first | (simp [nPts]) | omega)), ?_⟩
    rintro ⟨i, q⟩ hinv
    try dsimp only at hinv
    rcases elemAt l i (by omega) with ⟨hlt, c, hk⟩ | hlt
    all_goals (first | ((have hlt2 := of_eq_true hlt); (have hmk := mkV_at hpre.2.2.2 hinv.1.1 hk); (have hnp := nPtsX_take hk hinv.1.1); (have hnl := nPts_le2 l i.toNat); (have hn8 := nPts_mem hk); all_goals simp (config := { maxSteps := 1000000 }) only [go_sem, ↓ifP_true, ↓ifP_false, ↓ifP_not, Nat.reduceLT, Nat.reduceAdd, Nat.reduceBEq, Nat.reduceSub, Nat.reduceLeDiff, Nat.reduceEqDiff, Nat.reduceMul, Int.reduceToNat, Int.reduceEq, Int.reduceLT, Int.reduceLE, Int.reduceAdd, Int.reduceSub, Int.reduceMul, reduceCtorEq, cond_true, cond_false, forall_eq', forall_eq, forall_const, implies_true, if_true, if_false, exists_eq_left', exists_eq', exists_eq, ne_eq, Tryd.f17, tb17_39, spHeV_q, spHeV_A, spHeV_pre, spHeV_post, spHeP_q, spHeP_A, spHeP_pre, spHeP_post, hlt, hk]) | (have hlt2 := of_eq_false hlt; simp (config := { maxSteps := 1000000 }) only [go_sem, ↓ifP_true, ↓ifP_false, ↓ifP_not, Nat.reduceLT, Nat.reduceAdd, Nat.reduceBEq, Nat.reduceSub, Nat.reduceLeDiff, Nat.reduceEqDiff, Nat.reduceMul, Int.reduceToNat, Int.reduceEq, Int.reduceLT, Int.reduceLE, Int.reduceAdd, Int.reduceSub, Int.reduceMul, reduceCtorEq, cond_true, cond_false, forall_eq', forall_eq, forall_const, implies_true, if_true, if_false, exists_eq_left', exists_eq', exists_eq, ne_eq, Tryd.f17, tb17_39, spHeV_q, spHeV_A, spHeV_pre, spHeV_post, spHeP_q, spHeP_A, spHeP_pre, spHeP_post, hlt]))
    all_goals
      repeat' (first | apply And.intro | (intro _) | omega | assumption | with_reducible rfl)
  
  all_goals (first | (omega; done) | (exact hmk.2; done) | ((rw [hinv.2]; exact hmk.2); done) | ((rw [hinv.2, nPts_end (by omega)]; omega); done) | (skip; done))
theorem sat_laws_heldVerbS : Sat Tryd.prog rt0 17 (wkIn spHeV) := sat_in (sat_out sat_laws_heldVerbS_0)
end Go.Proofs.YthphndhiacikaaaDoor
end
section
set_option maxRecDepth 100000
set_option linter.unusedSimpArgs false
set_option linter.unusedVariables false
namespace Go.Proofs.YthphndhiacikaaaDoor
open Go Go.VE
def tbM : Nat → Option VE.Spec := tabOf [(38, wkIn spMkP)]
theorem tbM_1 : tbM 38 = some (wkIn spMkP) := rfl
theorem tbM_ok : TabOK Tryd.prog rt0 tbM := tabOf_cons (by kernel_rfl) sat_laws_markPointS tabOf_nil
set_option maxHeartbeats 4000000 in
theorem pM0 (V : Value) (k : Int) : runW (ttOf tys) tbM Ent (dwS (ttOf tys) tbM fun _ => true) (nav [0] (Tryd.f16.body.getD .skip)) ⟨27, 0, [(0, .c (.v V)), (1, I k)], [], 0, 0⟩ (seqK (fun _ _ => False) fun s' => s'.nt = 27 ∧ s'.get 0 = .c (.v V) ∧ s'.get 1 = I k) := by
  have hpk : 0 + 0 ≤ pickLimit := Nat.zero_le _
  simp (config := { maxSteps := 1000000 }) only [go_sem, ↓ifP_true, ↓ifP_false, ↓ifP_not, Nat.reduceLT, Nat.reduceAdd, Nat.reduceBEq, Nat.reduceSub, Nat.reduceLeDiff, Nat.reduceEqDiff, Nat.reduceMul, Int.reduceToNat, Int.reduceEq, Int.reduceLT, Int.reduceLE, Int.reduceAdd, Int.reduceSub, Int.reduceMul, reduceCtorEq, cond_true, cond_false, forall_eq', forall_eq, forall_const, implies_true, if_true, if_false, exists_eq_left', exists_eq', exists_eq, ne_eq, Tryd.f16, tbM_1, spMkP_q, spMkP_A, spMkP_B, spMkP_d, spMkP_pre, spMkP_post]
  repeat' (first | apply And.intro | (intro _) | omega | assumption | with_reducible rfl)
  all_goals (first | (skip; done))
set_option maxHeartbeats 4000000 in
theorem pM1 (V : Value) (k : Int) : runW (ttOf tys) tbM Ent (dwS (ttOf tys) tbM fun _ => true) (nav [1, 0, 0] (Tryd.f16.body.getD .skip)) ⟨27, 0, [(0, .c (.v V)), (1, I k)], [], 0, 0⟩ (seqK (fun _ _ => False) fun s' => s'.nt = 27 ∧ s'.get 0 = .c (.v V) ∧ s'.get 1 = I k ∧ s'.get 5 = I 0) := by
  have hpk : 0 + 0 ≤ pickLimit := Nat.zero_le _
  simp (config := { maxSteps := 1000000 }) only [go_sem, ↓ifP_true, ↓ifP_false, ↓ifP_not, Nat.reduceLT, Nat.reduceAdd, Nat.reduceBEq, Nat.reduceSub, Nat.reduceLeDiff, Nat.reduceEqDiff, Nat.reduceMul, Int.reduceToNat, Int.reduceEq, Int.reduceLT, Int.reduceLE, Int.reduceAdd, Int.reduceSub, Int.reduceMul, reduceCtorEq, cond_true, cond_false, forall_eq', forall_eq, forall_const, implies_true, if_true, if_false, exists_eq_left', exists_eq', exists_eq, ne_eq, Tryd.f16, tbM_1, spMkP_q, spMkP_A, spMkP_B, spMkP_d, spMkP_pre, spMkP_post]
  repeat' (first | apply And.intro | (intro _) | omega | assumption | with_reducible rfl)
  all_goals (first | (skip; done))
set_option maxHeartbeats 4000000 in
theorem pM9 (q : Int) : runW (ttOf tys) tbM Ent (dwS (ttOf tys) tbM fun _ => true) (nav [1, 1] (Tryd.f16.body.getD .skip)) ⟨27, 0, [(1, I q)], [], 0, 0⟩ (seqK (fun e s' => e = .ret ∧ s'.get 4 = I q) fun s' => False) := by
  have hpk : 0 + 0 ≤ pickLimit := Nat.zero_le _
  simp (config := { maxSteps := 1000000 }) only [go_sem, ↓ifP_true, ↓ifP_false, ↓ifP_not, Nat.reduceLT, Nat.reduceAdd, Nat.reduceBEq, Nat.reduceSub, Nat.reduceLeDiff, Nat.reduceEqDiff, Nat.reduceMul, Int.reduceToNat, Int.reduceEq, Int.reduceLT, Int.reduceLE, Int.reduceAdd, Int.reduceSub, Int.reduceMul, reduceCtorEq, cond_true, cond_false, forall_eq', forall_eq, forall_const, implies_true, if_true, if_false, exists_eq_left', exists_eq', exists_eq, ne_eq, Tryd.f16, tbM_1, spMkP_q, spMkP_A, spMkP_B, spMkP_d, spMkP_pre, spMkP_post]
  repeat' (first | apply And.intro | (intro _) | omega | assumption | with_reducible rfl)
  all_goals (first | (skip; done))
set_option maxHeartbeats 4000000 in
theorem pMx (i q : Int) (l : List Vx) (f : Bool) (hlt : (i < (l.length : Int)) = False) : runW (ttOf tys) tbM Ent (dwS (ttOf tys) tbM fun _ => true) (nav [1, 0, 1, 2, 3] (Tryd.f16.body.getD .skip)) ⟨27, 1, [(0, .c (.own 0 l.length f)), (1, I q), (5, I i)], [(0, some ⟨l.map vxC, 2, 43, true, false⟩)], 1, 0⟩ (seqK (fun e s' => e = .exit 0 ∧ s'.nt = 27 ∧ s'.get 1 = I q ∧ s'.box 0 = some ⟨l.map vxC, 2, 43, true, false⟩) fun s' => False) := by
  have hpk : 0 + 0 ≤ pickLimit := Nat.zero_le _
  simp (config := { maxSteps := 1000000 }) only [go_sem, ↓ifP_true, ↓ifP_false, ↓ifP_not, Nat.reduceLT, Nat.reduceAdd, Nat.reduceBEq, Nat.reduceSub, Nat.reduceLeDiff, Nat.reduceEqDiff, Nat.reduceMul, Int.reduceToNat, Int.reduceEq, Int.reduceLT, Int.reduceLE, Int.reduceAdd, Int.reduceSub, Int.reduceMul, reduceCtorEq, cond_true, cond_false, forall_eq', forall_eq, forall_const, implies_true, if_true, if_false, exists_eq_left', exists_eq', exists_eq, ne_eq, Tryd.f16, tbM_1, spMkP_q, spMkP_A, spMkP_B, spMkP_d, spMkP_pre, spMkP_post, hlt]
  repeat' (first | apply And.intro | (intro _) | omega | assumption | with_reducible rfl)
  all_goals (first | (skip; done))
set_option maxHeartbeats 4000000 in
theorem pM (ES : List (List C)) (f : Bool) (i q k0 : Int) (l : List Pt) (h0 : 0 ≤ i) (hlt : (i < (ES.length : Int)) = True) (hES : ES.length ≤ 1000) (hq : 0 ≤ q ∧ q ≤ 1000000) (hl : l.length ≤ 1000) (hE : ES[i.toNat]? = some [C.v (.int .i64 k0), C.own 1 l.length true]) : runW (ttOf tys) tbM Ent (dwS (ttOf tys) tbM fun _ => true) (nav [1, 0, 1, 2, 3] (Tryd.f16.body.getD .skip)) ⟨27, 2, [(0, .c (.own 0 ES.length f)), (1, I q), (5, I i)], [(0, some ⟨ES, 2, 43, false, false⟩), (1, some ⟨l.map ptC, 2, 47, true, false⟩)], 2, 0⟩ (seqK (fun _ _ => False) fun s' => s'.nt = 27 ∧ s'.get 0 = .c (.own 0 ES.length f) ∧ s'.get 1 = I (q + 1 + 2 * l.length) ∧ s'.get 5 = I (i + 1) ∧ s'.box 0 = some ⟨ES.set i.toNat [C.v (.int .i64 q), C.own 1 l.length true], 2, 43, false, false⟩ ∧ s'.box 1 = some ⟨(mkP (q + 1) l.length).map ptC, 2, 47, true, false⟩) := by
  have hpk : 0 + 0 ≤ pickLimit := Nat.zero_le _
  have hlt2 := of_eq_true hlt
  have hS : ∀ x, (ES.set i.toNat x)[i.toNat]? = some x := fun x => by rw [List.getElem?_set_self (by omega)]
  simp (config := { maxSteps := 1000000 }) only [go_sem, ↓ifP_true, ↓ifP_false, ↓ifP_not, Nat.reduceLT, Nat.reduceAdd, Nat.reduceBEq, Nat.reduceSub, Nat.reduceLeDiff, Nat.reduceEqDiff, Nat.reduceMul, Int.reduceToNat, Int.reduceEq, Int.reduceLT, Int.reduceLE, Int.reduceAdd, Int.reduceSub, Int.reduceMul, reduceCtorEq, cond_true, cond_false, forall_eq', forall_eq, forall_const, implies_true, if_true, if_false, exists_eq_left', exists_eq', exists_eq, ne_eq, Tryd.f16, tbM_1, spMkP_q, spMkP_A, spMkP_B, spMkP_d, spMkP_pre, spMkP_post, hlt, hE, hS, List.set_set]
  repeat' (first | apply And.intro | (intro _) | omega | assumption | with_reducible rfl)
  all_goals (first | (omega; done) | (skip; done))
end Go.Proofs.YthphndhiacikaaaDoor
end
section
set_option maxRecDepth 100000
set_option linter.unusedSimpArgs false
set_option linter.unusedVariables false
namespace Go.Proofs.YthphndhiacikaaaDoor
open Go Go.VE
theorem pin_at {rt : RT} {w w' : World} {ins : List Box} {β0 : Nat → Option Nat} {cp0 : Nat → Nat} {s : St} {a : Act} {β : Nat → Option Nat} {cp : Nat → Nat} {Rd : Nat → Prop} (G : VE.Good (cutX rt w ins β0 cp0) s a w' β cp Rd) {b : Nat} {bx0 bx : Box} (h0 : ins[b]? = some bx0) (hb : s.box b = some bx) (hl : bx.es.length = bx0.es.length) : β b = β0 b ∧ cp b = cp0 b := by
  have h := ((G.pin b _ (entPins_of β0 cp0 h0)).2 bx hb).2 hl
  exact ⟨h.1, h.2.1⟩
def two {α : Type} (x y : α) : Nat → α
  | 0 => x
  | _ => y
/-- Two boxes. -/
theorem cut2 {rt : RT} {a : Act} {w : World} {env : List (Nat × AV)} {bx bz : Box} {g0 g1 : Option Nat} {c0 c1 : Nat} (hdf : a.defers = []) (hg : FrzOK rt w) (hF : ∀ g ∈ rt.F, g0 ≠ some g ∧ g1 ≠ some g) (henv : EnvOK w (insH [bx, bz] (two g0 g1)) (hOf (expSt [bx, bz]) (two g0 g1) (two c0 c1)) a env)
    (hz : bx.fz = false ∧ bz.fz = false) (hne : ∀ g, g0 = some g → g1 ≠ some g) (h0 : BoxOK0 w (MC w (insH [bx, bz] (two g0 g1)) noB (hOf (expSt [bx, bz]) (two g0 g1) (two c0 c1))) g0 c0 bx) (h1 : BoxOK0 w (MC w (insH [bx, bz] (two g0 g1)) noB (hOf (expSt [bx, bz]) (two g0 g1) (two c0 c1))) g1 c1 bz) : Cut rt env [bx, bz] a w (two g0 g1) (two c0 c1) := {
  df := hdf
  glob := ⟨hg.1, fun g h => ⟨hg.2 g h, fun h2 => (insH_two h2).elim (hF g h).1 (hF g h).2⟩⟩
  env := henv
  boxes := fun b bx' hb => by
    match b with
    | 0 => simp at hb; subst hb; exact ⟨hz.1, .inl h0⟩
    | 1 => simp at hb; subst hb; exact ⟨hz.2, .inl h1⟩
    | n + 2 => simp at hb
  inj := fun b b' bx1 bx2 g k1 k2 k3 k4 => by
    match b, b' with
    | 0, 0 => rfl
    | 1, 1 => rfl
    | 0, 1 => exact absurd k4 (hne g k3)
    | 1, 0 => exact absurd k3 (hne g k4)
    | n + 2, _ => simp at k1
    | 0, n + 2 => simp at k2
    | 1, n + 2 => simp at k2 }
theorem Inn.row {w : World} {lo : Nat} {d : Nd} (h : Inn w lo d) : ∃ cp, Row w d.g cp ⟨d.ps.map ptC, 2, 47, true, false⟩ ∧ ∀ v, MV v (vxP d.vx.g) → hV d.g cp 2 (.own 0 d.ps.length true) v := by
  rcases h with ⟨h1, h2⟩ | ⟨g, cp, h1, h2, h3⟩
  · refine ⟨0, ?_, fun v hv => ?_⟩
    · rw [h1, h2]; exact .inl ⟨rfl, rfl, rfl⟩
    · rw [Nd.vx, h1] at hv
      rw [h1, h2]
      rcases hv with ⟨x, hx, _⟩ | ⟨_, a, rfl⟩
      · cases hx
      · exact .inl ⟨rfl, rfl, a, rfl⟩
  · refine ⟨cp, by rw [h1]; exact h3, fun v hv => ?_⟩
    rw [Nd.vx, h1] at hv
    rw [h1]
    rcases hv with ⟨x, hx, rfl, _⟩ | ⟨hx, _⟩
    · cases hx
      have hl : d.ps.length ≤ cp := by
        rcases h3 with ⟨q, _⟩ | ⟨g', cur, _, _, _, q, _⟩
        · cases q
        · simpa using q
      exact .inr ⟨g, d.ps.length, rfl, rfl, Nat.le_refl _, hl, fun _ => rfl⟩
    · cases hx
theorem mid_get {A B : List Vx} {c : List C} : (A.map vxC ++ (c :: B.map vxC))[A.length]? = some c := by
  rw [List.getElem?_append_right (by simp)]; simp
theorem mid_set {A B : List Vx} {c e : List C} : (A.map vxC ++ (c :: B.map vxC)).set A.length e = A.map vxC ++ (e :: B.map vxC) := by
  rw [List.set_append_right _ _ (by simp)]; simp
theorem mid_other {A B : List Vx} {c : List C} {x : Vx} {i : Nat} {e : List C} (hi : i ≠ A.length) (he : ((A ++ (x :: B)).map vxC)[i]? = some e) : (A.map vxC ++ (c :: B.map vxC))[i]? = some e := by
  rw [← he, List.map_append]
  rcases Nat.lt_or_ge i A.length with h5 | h5
  · rw [List.getElem?_append_left (by simpa using h5), List.getElem?_append_left (by simpa using h5)]
  · obtain ⟨z, rfl⟩ : ∃ z, i = A.length + 1 + z := ⟨i - A.length - 1, by omega⟩
    rw [List.getElem?_append_right (by simp; omega), List.getElem?_append_right (by simp; omega)]
    simp only [List.length_map, List.map_cons]
    rw [show A.length + 1 + z - A.length = z + 1 by omega, List.getElem?_cons_succ, List.getElem?_cons_succ]
theorem row_of2 {X : Cx} {s : St} {a : Act} {w : World} {β : Nat → Option Nat} {cp : Nat → Nat} {Rd : Nat → Prop} (G : VE.Good X s a w β cp Rd) {A B : List Vx} {k : Int} {b nb m : Nat} {q : List Pt} (hb : s.box b = some ⟨A.map vxC ++ ([C.v (.int .i64 k), C.own nb m true] :: B.map vxC), 2, 43, false, false⟩) (hq : s.box nb = some ⟨q.map ptC, 2, 47, true, false⟩) (hm : m = q.length) :
    Row w (β b) (cp b) ⟨(A ++ (⟨k, (β nb).map fun g => (g, m)⟩ :: B)).map vxC, 2, 43, true, false⟩ := by
  obtain ⟨g0, cur, k1, k2, k3, k4, k5, k6, k7⟩ := G.var_out hb (by simp)
  simp only at k2 k3 k4 k6 k7
  obtain ⟨h1, h2⟩ := G.cell_own (k7 A.length 1 _ _ mid_get rfl) hq (by simpa using hm)
  rw [k1]
  refine .inr ⟨g0, cur, rfl, k2, k3, by simpa using k4, k5, fun e he => ?_, fun _ e he c hc => ?_, fun i j e c he hc => ?_⟩
  · obtain ⟨x, _, rfl⟩ := List.mem_map.1 he
    rfl
  · obtain ⟨x, _, rfl⟩ := List.mem_map.1 he
    obtain ⟨kk, _ | ⟨g', n'⟩⟩ := x <;> simp [vxC, vxP] at hc <;> rcases hc with rfl | rfl <;> rfl
  · by_cases hi : i = A.length
    · subst hi
      have he2 : e = vxC ⟨k, (β nb).map fun g => (g, m)⟩ := by
        rw [List.map_append, List.getElem?_append_right (by simp)] at he
        simpa using he.symm
      subst he2
      match j with
      | 0 =>
        simp [vxC] at hc; subst hc
        exact MV.of (k7 A.length 0 _ _ mid_get rfl) trivial
      | 1 =>
        simp only [vxC, List.getElem?_cons_succ, List.getElem?_cons_zero, Option.some.injEq] at hc
        subst hc
        rcases h1 with ⟨p1, p2, z, p3⟩ | ⟨g, c, p1, p2, p3, p4, p5⟩
        · rw [p1]
          refine .inr ⟨rfl, z, p3⟩
        · rw [p1]
          rw [p5 rfl] at p2
          exact .inl ⟨_, rfl, p2, rfl⟩
      | j + 2 => simp [vxC] at hc
    · refine MV.of (k7 i j e c (mid_other hi he) hc) ?_
      obtain ⟨x, _, rfl⟩ := List.mem_map.1 (List.mem_of_getElem? he)
      exact okX_vx x c (List.mem_of_getElem? hc)
theorem Nest.same {w w' : World} {lo : Nat} {go : Option Nat} {N N' : List Nd} (h : Nest w lo go N) (hg : N'.map Nd.g = N.map Nd.g) (hi : ∀ d ∈ N', Inn w' lo d) : Nest w' lo go N' := by
  have key : ∀ (i : Nat) (d' : Nd), N'[i]? = some d' → ∃ d, N[i]? = some d ∧ d.g = d'.g := fun i d' h1 => by
    have h2 : (N'.map Nd.g)[i]? = some d'.g := by rw [List.getElem?_map, h1]; rfl
    rw [hg, List.getElem?_map, Option.map_eq_some_iff] at h2
    exact h2
  refine ⟨hi, fun d' hd g hgg => ?_, fun i j di dj g h1 h2 h3 h4 => ?_⟩
  · obtain ⟨i, hi⟩ := List.getElem?_of_mem hd
    obtain ⟨d, h1, h2⟩ := key i d' hi
    exact h.out d (List.mem_of_getElem? h1) g (h2.trans hgg)
  · obtain ⟨d1, a1, a2⟩ := key i di h1
    obtain ⟨d2, b1, b2⟩ := key j dj h2
    exact h.inj i j d1 d2 g a1 b1 (a2.trans h3) (b2.trans h4)
theorem nPtsX_app (a b : List Verb) : nPts (a ++ b) = nPts a + nPts b := by simp [nPts]
/-- The marks so far. -/
structure MJ (V : Value) (f : Bool) (go : Option Nat) (cp : Nat) (w1 : World) (lo : Nat) (N0 : List Nd) (k0 : Int) (A B : List Nd) (a : Act) (w : World) : Prop where
  df : a.defers = []
  sz : a.tmps.size = 27
  t0 : hV go cp 2 (.own 0 (A ++ B).length f) (a.tmps.getD 0 undef)
  top : Top w lo V f go cp (A ++ B)
  kp : Keeps (fun g => lo ≤ g) w1 w
  t5 : a.tmps.getD 5 undef = .int .i64 A.length
  mrk : ∃ A0, N0 = A0 ++ B ∧ A.map Nd.vb = mkV k0 (A0.map Nd.vb) ∧ a.tmps.getD 1 undef = .int .i64 (k0 + A0.length + 2 * nPts (A0.map Nd.vb))
theorem MJ.step {V : Value} {f : Bool} {go : Option Nat} {cp : Nat} {w1 : World} {lo : Nat} {N0 : List Nd} {k0 : Int} {A B : List Nd} {d : Nd} {a : Act} {w : World} (h : MJ V f go cp w1 lo N0 k0 A (d :: B) a w) (h0 : FrzOK rt0 w1) (hlo : ∀ g ∈ rt0.F, g < lo) (hN : N0.length ≤ 1000) (hP : nPts (N0.map Nd.vb) ≤ 1000) (hk : 0 ≤ k0 ∧ k0 ≤ 1000) {Q : Exit → Act → World → Prop} :
    (nav [1, 0, 1, 2, 3] (Tryd.f16.body.getD .skip)).wp Tryd.prog (Exit.then (fun a' w' => ∃ A', MJ V f go cp w1 lo N0 k0 A' B a' w') Q) a w := by
  obtain ⟨A0, hA0, hmk, ht1⟩ := h.mrk
  have ht := h.top
  have hi := ht.nest.inn d (by simp)
  obtain ⟨c1, hr1, hv1⟩ := hi.row
  have hout := ht.nest.out d (by simp)
  have hlenA : A.length = A0.length := by
    have := congrArg List.length hmk
    rw [mkV_len] at this; simpa using this
  have hn0 : N0.length = A0.length + (B.length + 1) := by rw [hA0]; simp
  have hp0 : nPts (N0.map Nd.vb) = nPts (A0.map Nd.vb) + d.ps.length + nPts (B.map Nd.vb) := by
    rw [hA0, List.map_append, nPtsX_app, List.map_cons]; simp [nPts, Nd.vb]; omega
  have hw := h0.keep h.kp fun g hg hh => by have := hlo g hg; omega
  have hF : ∀ g ∈ rt0.F, go ≠ some g ∧ d.g ≠ some g := fun g hg => ⟨fun e => by have := ht.lo g e; have := hlo g hg; omega, fun e => by have := (hi.lt e).2; have := hlo g hg; omega⟩
  have hmapd : ((A ++ d :: B).map Nd.vx) = A.map Nd.vx ++ (d.vx :: B.map Nd.vx) := by simp
  have hrow := ht.row
  rw [hmapd] at hrow
  generalize hES : (A.map Nd.vx).map vxC ++ ([C.v (.int .i64 d.k), C.own 1 d.ps.length true] :: (B.map Nd.vx).map vxC) = ES
  have hlen : ES.length = (A ++ d :: B).length := by rw [← hES]; simp
  have hbx0 : BoxOK0 w (MC w (insH [⟨ES, 2, 43, false, false⟩, ⟨d.ps.map ptC, 2, 47, true, false⟩] (two go d.g)) noB (hOf (expSt [⟨ES, 2, 43, false, false⟩, ⟨d.ps.map ptC, 2, 47, true, false⟩]) (two go d.g) (two cp c1))) go cp ⟨ES, 2, 43, false, false⟩ := by
    rcases hrow with ⟨_, hh, _⟩ | ⟨g, cur, k1, k2, k4, k5, k6, k7, k9, k8⟩
    · simp at hh
    · simp only at k2 k4 k5 k7 k8
      refine .inr ⟨g, cur, k1, k2, k4, by rw [hlen]; simpa using k5, k6, fun e he => ?_, (fun h => nomatch h), fun i j e c he hc => ?_⟩
      · rw [← hES] at he
        simp only at he
        rcases List.mem_append.1 he with he | he
        · obtain ⟨x, _, rfl⟩ := List.mem_map.1 he
          rfl
        · rcases List.mem_cons.1 he with rfl | he
          · rfl
          · obtain ⟨x, _, rfl⟩ := List.mem_map.1 he
            rfl
      · simp only at he ⊢
        rw [← hES] at he
        by_cases hii : i = (A.map Nd.vx).length
        · subst hii
          rw [mid_get] at he
          cases he
          have hlast : ((A.map Nd.vx ++ (d.vx :: B.map Nd.vx)).map vxC)[(A.map Nd.vx).length]? = some (vxC d.vx) := by
            rw [List.map_append, List.map_cons]; exact mid_get
          match j with
          | 0 => simp at hc; subst hc; exact (k8 _ 0 _ _ hlast rfl).mc
          | 1 =>
            simp at hc; subst hc
            have hmv := k8 _ 1 _ _ hlast rfl
            exact ma_own (Mt := fun _ => False) (bx := ⟨d.ps.map ptC, 2, 47, true, false⟩) (ins := [⟨ES, 2, 43, false, false⟩, ⟨d.ps.map ptC, 2, 47, true, false⟩]) (β := two go d.g) (cp := two cp c1) (b := 1) (w := w) rfl (by simp) (hv1 _ hmv)
          | j + 2 => simp at hc
        · have he2 : ((A.map Nd.vx ++ (d.vx :: B.map Nd.vx)).map vxC)[i]? = some e := by
            rw [List.map_append, List.map_cons]
            rw [← he]
            rcases Nat.lt_or_ge i (A.map Nd.vx).length with h5 | h5
            · rw [List.getElem?_append_left (by simpa using h5), List.getElem?_append_left (by simpa using h5)]
            · obtain ⟨z, rfl⟩ : ∃ z, i = (A.map Nd.vx).length + 1 + z := ⟨i - (A.map Nd.vx).length - 1, by omega⟩
              rw [List.getElem?_append_right (by simp; omega), List.getElem?_append_right (by simp; omega)]
              simp only [List.length_map]
              rw [show A.length + 1 + z - A.length = z + 1 by omega, List.getElem?_cons_succ, List.getElem?_cons_succ]
          exact (k8 i j e c he2 hc).mc
  have cut : Cut rt0 [(0, .c (.own 0 ES.length f)), (1, I (k0 + A0.length + 2 * nPts (A0.map Nd.vb))), (5, I A.length)] [⟨ES, 2, 43, false, false⟩, ⟨d.ps.map ptC, 2, 47, true, false⟩] a w (two go d.g) (two cp c1) := by
    refine cut2 h.df hw hF ?_ ⟨rfl, rfl⟩ (fun g hg he => hout g he hg) hbx0 (hr1.mono fun v c hc => hc.mc)
    exact .cons (ma_own (bx := ⟨ES, 2, 43, false, false⟩) rfl rfl (by rw [hlen]; exact h.t0)) (.cons (ma_v ht1 rfl) (.cons (ma_v h.t5 rfl) .nil))
  have hAl : (A.map Nd.vx).length = A.length := by simp
  have hrun := pM ES f A.length (k0 + A0.length + 2 * nPts (A0.map Nd.vb)) d.k d.ps (by omega) (eq_true (by rw [hlen]; simp; omega)) (by rw [hlen]; simp; omega) (by omega) (by omega) (by rw [← hES, Int.toNat_natCast, ← hAl]; exact mid_get)
  refine Cut.run hm ttok tbM_ok (sq := fun _ => true) (by kernel_rfl) cut h.sz hrun ⟨fun s a' w' hq hr => ?_, fun i s a' w' hq hr => hq.elim, fun s a' w' hq hr => hq.elim⟩
  obtain ⟨en, e0, e1, e5, eb, eq⟩ := hq
  obtain ⟨β, cp', Rd, G⟩ := hr
  obtain ⟨b0, b0c⟩ := pin_at G (b := 0) rfl eb (by simp)
  obtain ⟨b1, b1c⟩ := pin_at G (b := 1) rfl eq (by simp [mkP_len])
  rw [← hES, Int.toNat_natCast, ← hAl, mid_set] at eb
  have K : Keeps (fun g => go = some g ∨ d.g = some g) w w' := G.cut_end.1.mono fun g _ hg => insH_two hg
  have hR := row_of2 G eb eq (by rw [mkP_len])
  rw [b0, b0c, b1] at hR
  have hR1 := G.row_out eq (pureX_pt _) rfl
  rw [b1, b1c] at hR1
  have hgs : ((A ++ [(⟨k0 + A0.length + 2 * nPts (A0.map Nd.vb), d.g, mkP (k0 + A0.length + 2 * nPts (A0.map Nd.vb) + 1) d.ps.length⟩ : Nd)]) ++ B).map Nd.g = (A ++ d :: B).map Nd.g := by simp
  have hdi : (A ++ d :: B)[A.length]? = some d := by rw [List.getElem?_append_right (Nat.le_refl _)]; simp
  refine ⟨A ++ [⟨k0 + A0.length + 2 * nPts (A0.map Nd.vb), d.g, mkP (k0 + A0.length + 2 * nPts (A0.map Nd.vb) + 1) d.ps.length⟩], {
    df := G.defers
    sz := G.size.trans en
    t0 := ?_
    top := ⟨?_, ?_, ht.nest.same hgs fun e he => ?_, ht.lo⟩
    kp := h.kp.trans K (fun g _ h => h) (fun g _ hg => ?_)
    t5 := by rw [G.v_out e5]; simp
    mrk := ⟨A0 ++ [d], by rw [hA0]; simp, ?_, ?_⟩ }⟩
  · have := G.own_out e0 eb (by rw [hlen]; simp)
    rw [b0, b0c, hlen] at this
    have e : ((A ++ [(⟨k0 + A0.length + 2 * nPts (A0.map Nd.vb), d.g, mkP (k0 + A0.length + 2 * nPts (A0.map Nd.vb) + 1) d.ps.length⟩ : Nd)]) ++ B).length = (A ++ d :: B).length := by simp
    rw [e]; exact this
  · have e : ((A ++ [(⟨k0 + A0.length + 2 * nPts (A0.map Nd.vb), d.g, mkP (k0 + A0.length + 2 * nPts (A0.map Nd.vb) + 1) d.ps.length⟩ : Nd)]) ++ B).length = (A ++ d :: B).length := by simp
    rw [e]; exact ht.h
  · have e : (((A ++ [(⟨k0 + A0.length + 2 * nPts (A0.map Nd.vb), d.g, mkP (k0 + A0.length + 2 * nPts (A0.map Nd.vb) + 1) d.ps.length⟩ : Nd)]) ++ B).map Nd.vx) = A.map Nd.vx ++ (⟨k0 + A0.length + 2 * nPts (A0.map Nd.vb), d.g.map fun g => (g, d.ps.length)⟩ :: B.map Nd.vx) := by simp [Nd.vx, mkP_len]
    rw [e]; exact hR
  · rw [List.append_assoc] at he
    have other : ∀ (i : Nat), (A ++ d :: B)[i]? = some e → i ≠ A.length → Inn w' lo e := fun i hi2 hne => by
      refine (ht.nest.inn e (List.mem_of_getElem? hi2)).keep K fun g hg hh => ?_
      rcases hh with hh | hh
      · exact ht.nest.out e (List.mem_of_getElem? hi2) g hg hh
      · exact hne (ht.nest.inj i A.length e d g hi2 hdi hg hh)
    rcases List.mem_append.1 he with he | he
    · obtain ⟨i, hi2⟩ := List.getElem?_of_mem he
      have hl := (List.getElem?_eq_some_iff.1 hi2).1
      exact other i (by rw [List.getElem?_append_left hl]; exact hi2) (by omega)
    · rcases List.mem_append.1 he with he | he
      · rw [List.mem_singleton] at he
        subst he
        rcases hi with ⟨q1, q2⟩ | ⟨g, cpx, q1, q2, q3⟩
        · exact .inl ⟨q1, by rw [q2]; rfl⟩
        · exact .inr ⟨g, two cp c1 1, q1, q2, by rw [← q1]; exact hR1⟩
      · obtain ⟨i, hi2⟩ := List.getElem?_of_mem he
        refine other (A.length + 1 + i) ?_ (by omega)
        rw [List.getElem?_append_right (by omega), show A.length + 1 + i - A.length = i + 1 by omega, List.getElem?_cons_succ]
        exact hi2
  · rcases hg with hg | hg
    · exact ht.lo g hg
    · exact (hi.lt hg).2
  · rw [List.map_append, List.map_append, List.map_singleton, List.map_singleton, mkV_snoc, hmk]
    simp [Nd.vb]
  · rw [G.v_out e1, List.map_append, List.map_singleton, nPtsX_app]
    simp only [nPts, Nd.vb, List.map_cons, List.map_nil, List.sum_cons, List.sum_nil, List.length_append, List.length_singleton]
    congr 1
    omega
theorem MJ.exit {V : Value} {f : Bool} {go : Option Nat} {cp : Nat} {w1 : World} {lo : Nat} {N0 : List Nd} {k0 : Int} {A : List Nd} {a : Act} {w : World} (h : MJ V f go cp w1 lo N0 k0 A [] a w) (h0 : FrzOK rt0 w1) (hlo : ∀ g ∈ rt0.F, g < lo) {Q : Exit → Act → World → Prop} {R : Act → World → Prop}
    (hQ : ∀ a' w', a'.defers = [] → a'.tmps.size = 27 → a'.tmps.getD 1 undef = .int .i64 (k0 + N0.length + 2 * nPts (N0.map Nd.vb)) → Keeps (fun g => lo ≤ g) w1 w' → Top w' lo V f go cp A → A.map Nd.vb = mkV k0 (N0.map Nd.vb) → Q (.exit 0) a' w') :
    (nav [1, 0, 1, 2, 3] (Tryd.f16.body.getD .skip)).wp Tryd.prog (Exit.then R Q) a w := by
  obtain ⟨A0, hA0, hmk, ht1⟩ := h.mrk
  rw [List.append_nil] at hA0
  subst hA0
  have ht := h.top
  have h00 := h.t0
  rw [List.append_nil] at ht h00
  have hlenA : A.length = N0.length := by
    have := congrArg List.length hmk
    rw [mkV_len] at this; simpa using this
  have hw := h0.keep h.kp fun g hg hh => by have := hlo g hg; omega
  have hF : ∀ g ∈ rt0.F, go ≠ some g := fun g hg e => by have := ht.lo g e; have := hlo g hg; omega
  have cut : Cut rt0 [(0, .c (.own 0 (A.map Nd.vx).length f)), (1, I (k0 + N0.length + 2 * nPts (N0.map Nd.vb))), (5, I A.length)] [⟨(A.map Nd.vx).map vxC, 2, 43, true, false⟩] a w (fun _ => go) (fun _ => cp) :=
    cut1 h.df hw hF (.cons (ma_own (bx := ⟨(A.map Nd.vx).map vxC, 2, 43, true, false⟩) rfl (by simp) (by rw [List.length_map]; exact h00)) (.cons (ma_v ht1 rfl) (.cons (ma_v h.t5 rfl) .nil))) rfl (ht.row.mono fun v c hc => hc.mc)
  have hrun := pMx A.length (k0 + N0.length + 2 * nPts (N0.map Nd.vb)) (A.map Nd.vx) f (eq_false (by rw [List.length_map]; omega))
  refine Cut.run hm ttok tbM_ok (sq := fun _ => true) (by kernel_rfl) cut h.sz hrun ⟨fun s a' w' hq hr => hq.elim, fun i s a' w' hq hr => ?_, fun s a' w' hq hr => ?_⟩
  · obtain ⟨e, en, e1, eb⟩ := hq
    cases e
    obtain ⟨β, cp', Rd, G⟩ := hr
    obtain ⟨b0, b0c⟩ := pin_at G (b := 0) rfl eb rfl
    have K := G.kp1
    have hR := G.row_out eb (pureX_vx _) rfl
    rw [b0, b0c] at hR
    exact hQ _ _ G.defers (G.size.trans en) (G.v_out e1) (h.kp.trans K (fun g _ h => h) fun g _ hg => ht.lo g hg) ⟨ht.h, hR, ht.nest.next K (fun g hg => hg) (fun g hg => .inr hg), ht.lo⟩ hmk
  · obtain ⟨e, _⟩ := hq
    cases e
theorem fitsX2 {V : Value} {k : Int} {a : Act} {w : World} (h0 : a.tmps.getD 0 undef = V) (h1 : a.tmps.getD 1 undef = .int .i64 k) (hV : V.oneCell' = true) : EnvOK w noB noH a [(0, .c (.v V)), (1, I k)] := .cons (ma_v h0 hV) (.cons (ma_v h1 rfl) .nil)
/-- laws.markVerbS at a path that keeps its points in blocks of their own. -/
theorem mark_x {V : Value} {f : Bool} {go : Option Nat} {cp : Nat} {w1 : World} {lo : Nat} {N0 : List Nd} {k0 : Int} (ht : Top w1 lo V f go cp N0) (h0 : FrzOK rt0 w1) (hlo : ∀ g ∈ rt0.F, g < lo) (hN : N0.length ≤ 1000) (hP : nPts (N0.map Nd.vb) ≤ 1000) (hk : 0 ≤ k0 ∧ k0 ≤ 1000) :
    Calls Tryd.prog 16 #[V, .int .i64 k0] w1 fun e w' => ∃ N, e = .returned (.int .i64 (k0 + N0.length + 2 * nPts (N0.map Nd.vb))) ∧ Keeps (fun g => lo ≤ g) w1 w' ∧ Top w' lo V f go cp N ∧ N.map Nd.vb = mkV k0 (N0.map Nd.vb) := by
  have hc : Tryd.f16.body = some (Code.seq (nav [0] (Tryd.f16.body.getD .skip)) (Code.seq (Code.seq (nav [1, 0, 0] (Tryd.f16.body.getD .skip)) (Code.block 0 (Code.loop (nav [1, 0, 1, 2, 3] (Tryd.f16.body.getD .skip))))) (nav [1, 1] (Tryd.f16.body.getD .skip)))) := by kernel_rfl
  refine calls_of_wp Tryd.func16 hc ?_
  have hnt : Tryd.f16.ntmps = 27 := Tryd.ntmps16
  have hV : V.oneCell' = true := hV_one ht.h
  have hs : ({ tmps := #[V, .int .i64 k0] ++ Array.replicate (Tryd.f16.ntmps - (#[V, Value.int .i64 k0] : Array Value).size) undef, defers := [] } : Act).tmps.size = 27 := by rw [hnt]; simp
  have ha0 : ({ tmps := #[V, .int .i64 k0] ++ Array.replicate (Tryd.f16.ntmps - (#[V, Value.int .i64 k0] : Array Value).size) undef, defers := [] } : Act).tmps.getD 0 undef = V := by rw [hnt]; simp
  have ha1 : ({ tmps := #[V, .int .i64 k0] ++ Array.replicate (Tryd.f16.ntmps - (#[V, Value.int .i64 k0] : Array Value).size) undef, defers := [] } : Act).tmps.getD 1 undef = .int .i64 k0 := by rw [hnt]; simp
  have hdf : ({ tmps := #[V, .int .i64 k0] ++ Array.replicate (Tryd.f16.ntmps - (#[V, Value.int .i64 k0] : Array Value).size) undef, defers := [] } : Act).defers = [] := rfl
  generalize ({ tmps := #[V, .int .i64 k0] ++ Array.replicate (Tryd.f16.ntmps - (#[V, Value.int .i64 k0] : Array Value).size) undef, defers := [] } : Act) = a0 at hs ha0 ha1 hdf
  refine wp_seq (Cut.run hm ttok tbM_ok (sq := fun _ => true) (by kernel_rfl) (cut0 hdf h0 (fitsX2 ha0 ha1 hV)) hs (pM0 V k0) ⟨fun s a1 w2 hq hr => ?_, fun i s a' w' hq hr => hq.elim, fun s a' w' hq hr => hq.elim⟩)
  obtain ⟨en, e0, e1⟩ := hq
  obtain ⟨β, cp', Rd, G⟩ := hr
  have K : Keeps noB w1 w2 := G.cut_end.1.mono fun g _ hg => insH_nil hg
  refine wp_seq (wp_seq (Cut.run hm ttok tbM_ok (sq := fun _ => true) (by kernel_rfl) (cut0 G.defers (h0.keep K fun g _ h => h) (fitsX2 (G.v_out e0) (G.v_out e1) hV)) (G.size.trans en) (pM1 V k0) ⟨fun s a2 w3 hq hr => ?_, fun i s a' w' hq hr => hq.elim, fun s a' w' hq hr => hq.elim⟩))
  obtain ⟨en2, e02, e12, e52⟩ := hq
  obtain ⟨β2, cp2, Rd2, G2⟩ := hr
  have K2 : Keeps noB w1 w3 := K.trans (G2.cut_end.1.mono fun g _ hg => insH_nil hg) (fun g _ h => h) (fun g _ h => h)
  have hJ : MJ V f go cp w1 lo N0 k0 [] N0 a2 w3 := {
    df := G2.defers
    sz := G2.size.trans en2
    t0 := by rw [G2.v_out e02]; exact ht.h
    top := ht.keep K2 fun g _ _ h => h
    kp := K2.mono fun g _ h => h.elim
    t5 := G2.v_out e52
    mrk := ⟨[], rfl, rfl, by rw [G2.v_out e12]; simp [nPts]⟩ }
  refine wp_block (wp_loopJ (fun n a w => ∃ A B, n = B.length ∧ MJ V f go cp w1 lo N0 k0 A B a w) _ ⟨[], N0, rfl, hJ⟩ fun n a w hJ => ?_)
  obtain ⟨A, B, rfl, hj⟩ := hJ
  cases B with
  | cons d B =>
    refine wp_mono (hj.step h0 hlo hN hP hk (Q := Exit.inBlock 0 (Exit.then ((nav [1, 1] (Tryd.f16.body.getD .skip)).wp Tryd.prog (bodyPost Tryd.prog Tryd.f16 fun e w' => ∃ N, e = .returned (.int .i64 (k0 + N0.length + 2 * nPts (N0.map Nd.vb))) ∧ Keeps (fun g => lo ≤ g) w1 w' ∧ Top w' lo V f go cp N ∧ N.map Nd.vb = mkV k0 (N0.map Nd.vb))) (bodyPost Tryd.prog Tryd.f16 fun e w' => ∃ N, e = .returned (.int .i64 (k0 + N0.length + 2 * nPts (N0.map Nd.vb))) ∧ Keeps (fun g => lo ≤ g) w1 w' ∧ Top w' lo V f go cp N ∧ N.map Nd.vb = mkV k0 (N0.map Nd.vb))))) fun e a' w' hq => ?_
    cases e with
    | normal =>
      obtain ⟨A', hq⟩ := hq
      exact ⟨B.length, by simp, A', B, rfl, hq⟩
    | _ => exact hq
  | nil =>
    refine hj.exit h0 hlo fun a3 w4 hd3 hs3 h13 hk3 ht3 hmk => ?_
    simp only [Exit.inBlock, if_true]
    have hw4 := h0.keep hk3 fun g hg hh => by have := hlo g hg; omega
    refine Cut.run hm ttok tbM_ok (sq := fun _ => true) (by kernel_rfl) (cut0 hd3 hw4 (.cons (ma_v h13 rfl) .nil)) hs3 (pM9 _) ⟨fun s a' w' hq hr => hq.elim, fun i s a' w' hq hr => ?_, fun s a5 w5 hq hr => ?_⟩
    · obtain ⟨e, _⟩ := hq
      cases e
    obtain ⟨_, e4⟩ := hq
    obtain ⟨β5, cp5, Rd5, G5⟩ := hr
    have K5 : Keeps noB w4 w5 := G5.cut_end.1.mono fun g _ hg => insH_nil hg
    have hres : Tryd.f16.results = #[.tmp 4] := by kernel_rfl
    have e4' := G5.v_out e4
    refine ⟨G5.defers, _, ?_, A, rfl, hk3.trans K5 (fun g _ h => h) (fun g _ h => h.elim), ht3.keep K5 fun g _ _ h => h, hmk⟩
    rw [← e4']; simp [results, hres]
end Go.Proofs.YthphndhiacikaaaDoor
end
section
set_option maxRecDepth 100000
set_option linter.unusedSimpArgs false
set_option linter.unusedVariables false
namespace Go.Proofs.YthphndhiacikaaaDoor
open Go Go.VE
def tbL3 : Nat → Option VE.Spec := tabOf [(15, wkIn spPP)]
theorem tbL3_1 : tbL3 15 = some (wkIn spPP) := rfl
theorem tbL3_ok : TabOK Tryd.prog rt0 tbL3 := tabOf_cons (by kernel_rfl) sat_spec_ParsePath tabOf_nil
def tbL5 (V V0 : Value) : Nat → Option VE.Spec := tabOf [(10, exS [.c (.v V), .c (.v V0)] (.c (.v (.bool true))))]
theorem tbL5_1 (V V0 : Value) : tbL5 V V0 10 = some (exS [.c (.v V), .c (.v V0)] (.c (.v (.bool true)))) := rfl
def tbL9 (V : Value) (m : Int) : Nat → Option VE.Spec := tabOf [(17, exS [.c (.v V), I 1] (I m)), (13, wkIn spPP), (10, wkIn spEqVX)]
theorem tbL9_1 (V : Value) (m : Int) : tbL9 V m 17 = some (exS [.c (.v V), I 1] (I m)) := rfl
theorem tbL9_2 (V : Value) (m : Int) : tbL9 V m 13 = some (wkIn spPP) := rfl
theorem tbL9_3 (V : Value) (m : Int) : tbL9 V m 10 = some (wkIn spEqVX) := rfl
set_option maxHeartbeats 4000000 in
theorem pL0 (x : ByteArray) : runW (ttOf tys) tbL3 Ent (dwS (ttOf tys) tbL3 fun _ => true) (nav [0] (Tryd.f5.body.getD .skip)) ⟨66, 0, [(0, .c (.v (.string x)))], [], 0, 0⟩ (seqK (fun _ _ => False) fun s' => s'.nt = 66 ∧ s'.get 0 = .c (.v (.string x))) := by
  have hpk : 0 + 0 ≤ pickLimit := Nat.zero_le _
  simp (config := { maxSteps := 1000000 }) only [go_sem, ↓ifP_true, ↓ifP_false, ↓ifP_not, Nat.reduceLT, Nat.reduceAdd, Nat.reduceBEq, Nat.reduceSub, Nat.reduceLeDiff, Nat.reduceEqDiff, Nat.reduceMul, Int.reduceToNat, Int.reduceEq, Int.reduceLT, Int.reduceLE, Int.reduceAdd, Int.reduceSub, Int.reduceMul, reduceCtorEq, cond_true, cond_false, forall_eq', forall_eq, forall_const, implies_true, if_true, if_false, exists_eq_left', exists_eq', exists_eq, ne_eq, Tryd.f5, tbL3_1, spPP_q, spPP_A, spPP_pre, spPP_post]
  repeat' (first | apply And.intro | (intro _) | omega | assumption | with_reducible rfl)
  all_goals (first | (skip; done))
set_option maxHeartbeats 4000000 in
theorem pL1 (x : ByteArray) (h : ¬ (1048576 : Int) < x.size) : runW (ttOf tys) tbL3 Ent (dwS (ttOf tys) tbL3 fun _ => true) (nav [1, 0] (Tryd.f5.body.getD .skip)) ⟨66, 0, [(0, .c (.v (.string x)))], [], 0, 0⟩ (seqK (fun _ _ => False) fun s' => s'.nt = 66 ∧ s'.get 0 = .c (.v (.string x))) := by
  have hpk : 0 + 0 ≤ pickLimit := Nat.zero_le _
  simp (config := { maxSteps := 1000000 }) only [go_sem, ↓ifP_true, ↓ifP_false, ↓ifP_not, Nat.reduceLT, Nat.reduceAdd, Nat.reduceBEq, Nat.reduceSub, Nat.reduceLeDiff, Nat.reduceEqDiff, Nat.reduceMul, Int.reduceToNat, Int.reduceEq, Int.reduceLT, Int.reduceLE, Int.reduceAdd, Int.reduceSub, Int.reduceMul, reduceCtorEq, cond_true, cond_false, forall_eq', forall_eq, forall_const, implies_true, if_true, if_false, exists_eq_left', exists_eq', exists_eq, ne_eq, Tryd.f5, tbL3_1, spPP_q, spPP_A, spPP_pre, spPP_post]
  repeat' (first | apply And.intro | (intro _) | omega | assumption | with_reducible rfl)
  all_goals (first | (omega; done) | (skip; done))
set_option maxHeartbeats 4000000 in
theorem pL3 (x : ByteArray) (p : List Verb) (h : ¬ (1048576 : Int) < x.size) (hp : pp (tx x) = some p) : runW (ttOf tys) tbL3 Ent (dwS (ttOf tys) tbL3 fun _ => true) (nav [1, 1, 0] (Tryd.f5.body.getD .skip)) ⟨66, 0, [(0, .c (.v (.string x)))], [], 0, 0⟩ (seqK (fun _ _ => False) fun s' => s'.nt = 66 ∧ s'.get 0 = .c (.v (.string x)) ∧ s'.get 3 = .c (.sl false (p.map vbC)) ∧ s'.get 4 = .c (.v (.bool true))) := by
  have hpk : 0 + 0 ≤ pickLimit := Nat.zero_le _
  simp (config := { maxSteps := 1000000 }) only [go_sem, ↓ifP_true, ↓ifP_false, ↓ifP_not, Nat.reduceLT, Nat.reduceAdd, Nat.reduceBEq, Nat.reduceSub, Nat.reduceLeDiff, Nat.reduceEqDiff, Nat.reduceMul, Int.reduceToNat, Int.reduceEq, Int.reduceLT, Int.reduceLE, Int.reduceAdd, Int.reduceSub, Int.reduceMul, reduceCtorEq, cond_true, cond_false, forall_eq', forall_eq, forall_const, implies_true, if_true, if_false, exists_eq_left', exists_eq', exists_eq, ne_eq, Tryd.f5, tbL3_1, spPP_q, spPP_A, spPP_pre, spPP_post, hp, Option.getD_some, Option.isSome_some]
  repeat' (first | apply And.intro | (intro _) | omega | assumption | with_reducible rfl)
  all_goals (first | (omega; done) | (skip; done))
set_option maxHeartbeats 4000000 in
theorem pL5 (x : ByteArray) (A A0 : Addr) (n c n0 c0 : Nat) : runW (ttOf tys) (tbL5 (.slice (some A) n c) (.slice (some A0) n0 c0)) Ent (dwS (ttOf tys) (tbL5 (.slice (some A) n c) (.slice (some A0) n0 c0)) fun _ => true) (nav [1, 1, 1, 1, 0] (Tryd.f5.body.getD .skip)) ⟨66, 0, [(0, .c (.v (.string x))), (3, .c (.v (.slice (some A0) n0 c0))), (4, .c (.v (.bool true))), (5, .c (.v (.slice (some A) n c))), (6, .c (.v (.bool true)))], [], 0, 0⟩ (seqK (fun _ _ => False) fun s' => s'.nt = 66 ∧ s'.get 0 = .c (.v (.string x)) ∧ s'.get 3 = .c (.v (.slice (some A0) n0 c0)) ∧ s'.get 4 = .c (.v (.bool true)) ∧ s'.get 5 = .c (.v (.slice (some A) n c))) := by
  have hpk : 0 + 0 ≤ pickLimit := Nat.zero_le _
  simp (config := { maxSteps := 1000000 }) only [go_sem, ↓ifP_true, ↓ifP_false, ↓ifP_not, Nat.reduceLT, Nat.reduceAdd, Nat.reduceBEq, Nat.reduceSub, Nat.reduceLeDiff, Nat.reduceEqDiff, Nat.reduceMul, Int.reduceToNat, Int.reduceEq, Int.reduceLT, Int.reduceLE, Int.reduceAdd, Int.reduceSub, Int.reduceMul, reduceCtorEq, cond_true, cond_false, forall_eq', forall_eq, forall_const, implies_true, if_true, if_false, exists_eq_left', exists_eq', exists_eq, ne_eq, Tryd.f5, tbL5_1, exS_q]
  repeat' (first | apply And.intro | (intro _) | omega | assumption | with_reducible rfl)
  all_goals (first | (skip; done))
set_option maxHeartbeats 4000000 in
theorem pL7 (x : ByteArray) (A A0 : Addr) (n c n0 c0 : Nat) : runW (ttOf tys) (tbL5 (.slice (some A) n c) (.slice (some A0) n0 c0)) Ent (dwS (ttOf tys) (tbL5 (.slice (some A) n c) (.slice (some A0) n0 c0)) fun _ => true) (nav [1, 1, 1, 1, 1, 0] (Tryd.f5.body.getD .skip)) ⟨66, 0, [(0, .c (.v (.string x))), (3, .c (.v (.slice (some A0) n0 c0))), (4, .c (.v (.bool true))), (5, .c (.v (.slice (some A) n c)))], [], 0, 0⟩ (seqK (fun _ _ => False) fun s' => s'.nt = 66 ∧ s'.get 0 = .c (.v (.string x)) ∧ s'.get 3 = .c (.v (.slice (some A0) n0 c0)) ∧ s'.get 4 = .c (.v (.bool true)) ∧ s'.get 5 = .c (.v (.slice (some A) n c)) ∧ s'.get 7 = I 1) := by
  have hpk : 0 + 0 ≤ pickLimit := Nat.zero_le _
  simp (config := { maxSteps := 1000000 }) only [go_sem, ↓ifP_true, ↓ifP_false, ↓ifP_not, Nat.reduceLT, Nat.reduceAdd, Nat.reduceBEq, Nat.reduceSub, Nat.reduceLeDiff, Nat.reduceEqDiff, Nat.reduceMul, Int.reduceToNat, Int.reduceEq, Int.reduceLT, Int.reduceLE, Int.reduceAdd, Int.reduceSub, Int.reduceMul, reduceCtorEq, cond_true, cond_false, forall_eq', forall_eq, forall_const, implies_true, if_true, if_false, exists_eq_left', exists_eq', exists_eq, ne_eq, Tryd.f5, tbL5_1, exS_q]
  repeat' (first | apply And.intro | (intro _) | omega | assumption | with_reducible rfl)
  all_goals (first | (skip; done))
set_option maxHeartbeats 4000000 in
theorem pL9 (x : ByteArray) (A : Addr) (n c : Nat) (p : List Verb) (m : Int) (h : ¬ (1048576 : Int) < x.size) (hp : pp (tx x) = some p) (hm0 : 1 ≤ m) (hl : p.length ≤ 30 ∧ nPts p ≤ 40) : runW (ttOf tys) (tbL9 (.slice (some A) n c) m) Ent (dwS (ttOf tys) (tbL9 (.slice (some A) n c) m) fun _ => true) (nav [1, 1, 1, 1, 1, 1, 1] (Tryd.f5.body.getD .skip)) ⟨66, 0, [(0, .c (.v (.string x))), (3, .c (.sl false (p.map vbC))), (4, .c (.v (.bool true))), (5, .c (.v (.slice (some A) n c))), (7, I m)], [], 0, 0⟩ (seqK (fun e s' => e = .ret ∧ s'.get 2 = .c (.v (.bool true))) fun s' => False) := by
  have hpk : 0 + 0 ≤ pickLimit := Nat.zero_le _
  simp (config := { maxSteps := 1000000 }) only [go_sem, ↓ifP_true, ↓ifP_false, ↓ifP_not, Nat.reduceLT, Nat.reduceAdd, Nat.reduceBEq, Nat.reduceSub, Nat.reduceLeDiff, Nat.reduceEqDiff, Nat.reduceMul, Int.reduceToNat, Int.reduceEq, Int.reduceLT, Int.reduceLE, Int.reduceAdd, Int.reduceSub, Int.reduceMul, reduceCtorEq, cond_true, cond_false, forall_eq', forall_eq, forall_const, implies_true, if_true, if_false, exists_eq_left', exists_eq', exists_eq, ne_eq, Tryd.f5, tbL9_1, tbL9_2, tbL9_3, exS_q, spPP_q, spPP_A, spPP_pre, spPP_post, spEqVX_q, spEqVX_A, spEqVX_pre, spEqVX_post, hp, Option.getD_some, Option.isSome_some]
  repeat' (first | apply And.intro | (intro _) | omega | assumption | with_reducible rfl)
  all_goals (first | (omega; done) | (skip; done))
end Go.Proofs.YthphndhiacikaaaDoor
end
section
set_option maxRecDepth 100000
set_option linter.unusedSimpArgs false
set_option linter.unusedVariables false
namespace Go.Proofs.YthphndhiacikaaaDoor
open Go Go.VE
def spMkE_A : (List Verb) × Int → List AV
  | (l, k) => [.c (.sl false (l.map vbC)), I k]
def spMkE_pre : (List Verb) × Int → Prop
  | (l, k) => l = [] ∧ 0 ≤ k ∧ k ≤ 1000
def spMkE_post : (List Verb) × Int → AV → List Box → Prop
  | (l, k), r, bs => r = I (k) ∧ bs = []
def spMkE : VE.Spec := famSpec spMkE_A d_lvb_i spMkE_pre spMkE_post 0 true
theorem spMkE_q : spMkE.flat = true ∧ spMkE.mt = [] ∧ spMkE.shut = false ∧ spMkE.cost = 0 ∧ (∀ a i, spMkE.pre a i = (i = [] ∧ famPre d_lvb_i spMkE_A spMkE_pre a)) ∧ ∀ a i r b, spMkE.post a i r b = (famPost d_lvb_i spMkE_post a r b) := ⟨rfl, rfl, rfl, rfl, fun _ _ => rfl, fun _ _ _ _ => rfl⟩
def tb16 : Nat → Option VE.Spec := tabOf []
theorem tb16_ok : TabOK Tryd.prog rt0 tb16 := tabOf_nil
set_option maxHeartbeats 4000000 in
theorem sat_laws_markVerbS_0 : Sat Tryd.prog rt0 16 (wkOut spMkE) := by
  refine fn_sat hm ttok (tab := tb16) tb16_ok Tryd.func16 (c := Tryd.f16.body.getD .skip) (by kernel_rfl) (ts := [.tmp 4]) (by kernel_rfl) Tryd.ntmps16 (sq := fun _ => true) (by kernel_rfl) ?_
  intro args ins pk hpre0 hpk
  obtain ⟨rfl, hpre0⟩ := hpre0
  obtain ⟨⟨l, k⟩, rfl, hpre, hdec⟩ := famPre_ex hpre0
  clear hpre0 hdec
  try simp only [spMkE_pre] at hpre
  replace hpk : pk + 0 ≤ pickLimit := hpk
  refine ⟨Nat.le_of_ble_eq_true rfl, ?_⟩
  obtain ⟨rfl, hpre⟩ := hpre
  simp (config := { maxSteps := 1000000 }) only [go_sem, ↓ifP_true, ↓ifP_false, ↓ifP_not, Nat.reduceLT, Nat.reduceAdd, Nat.reduceBEq, Nat.reduceSub, Nat.reduceLeDiff, Nat.reduceEqDiff, Nat.reduceMul, Int.reduceToNat, Int.reduceEq, Int.reduceLT, Int.reduceLE, Int.reduceAdd, Int.reduceSub, Int.reduceMul, reduceCtorEq, cond_true, cond_false, forall_eq', forall_eq, forall_const, implies_true, if_true, if_false, exists_eq_left', exists_eq', exists_eq, ne_eq, Tryd.f16, spMkE_q, spMkE_A, spMkE_pre, spMkE_post]
  repeat' (first | apply And.intro | (intro _) | omega | assumption | with_reducible rfl)
  any_goals
    refine loopS (α := Int × Int) false [1, 2, 3, 5, 6, 7, 8, 9, 10, 11, 12, 13, 14, 15, 16, 17, 18, 19, 20, 21, 22, 23, 24, 25] (fun σ => []) (fun σ x => [(5, I x.1), (1, I x.2)]) (fun σ x => []) (fun (i, q) => 0) (fun σ => (gI (σ.get 5), gI (σ.get 1))) (fun σ τ => []) (fun (i, q) => i = 0 ∧ q = k) (fun (i, q) => 0) ⟨by (simp (config := { maxSteps := 1000000 }) only [go_sem, ↓ifP_true, ↓ifP_false, ↓ifP_not, Nat.reduceLT, Nat.reduceAdd, Nat.reduceBEq, Nat.reduceSub, Nat.reduceLeDiff, Nat.reduceEqDiff, Nat.reduceMul, Int.reduceToNat, Int.reduceEq, Int.reduceLT, Int.reduceLE, Int.reduceAdd, Int.reduceSub, Int.reduceMul, reduceCtorEq, cond_true, cond_false, forall_eq', forall_eq, forall_const, implies_true, if_true, if_false, exists_eq_left', exists_eq', exists_eq, ne_eq, Tryd.f16, spMkE_q, spMkE_A, spMkE_pre, spMkE_post]; (repeat' (first | apply And.intro | (intro _) | omega | assumption | with_reducible rfl)); all_goals (first | rfl | omega)), ?_⟩
    rintro ⟨i, q⟩ hinv
    try dsimp only at hinv
    obtain ⟨rfl, rfl⟩ := hinv
    all_goals (simp (config := { maxSteps := 1000000 }) only [go_sem, ↓ifP_true, ↓ifP_false, ↓ifP_not, Nat.reduceLT, Nat.reduceAdd, Nat.reduceBEq, Nat.reduceSub, Nat.reduceLeDiff, Nat.reduceEqDiff, Nat.reduceMul, Int.reduceToNat, Int.reduceEq, Int.reduceLT, Int.reduceLE, Int.reduceAdd, Int.reduceSub, Int.reduceMul, reduceCtorEq, cond_true, cond_false, forall_eq', forall_eq, forall_const, implies_true, if_true, if_false, exists_eq_left', exists_eq', exists_eq, ne_eq, Tryd.f16, spMkE_q, spMkE_A, spMkE_pre, spMkE_post])
    repeat' (first | apply And.intro | (intro _) | omega | assumption | with_reducible rfl)
  
  all_goals (first | (skip; done))
theorem sat_laws_markVerbS : Sat Tryd.prog rt0 16 (wkIn spMkE) := sat_in (sat_out sat_laws_markVerbS_0)
def spLawE_A : ByteArray → List AV
  | x => [.c (.v (.string x))]
def spLawE_pre : ByteArray → Prop
  | x => x.size ≤ 9223372036854775807 ∧ ((1048576 : Int) < x.size ∨ (pp (tx x)).getD [] = [])
def spLawE_post : ByteArray → AV → List Box → Prop
  | x, r, bs => r = B (true) ∧ bs = []
def spLawE : VE.Spec := famSpec spLawE_A d_s spLawE_pre spLawE_post 0 false
theorem spLawE_q : spLawE.flat = false ∧ spLawE.mt = [] ∧ spLawE.shut = false ∧ spLawE.cost = 0 ∧ (∀ a i, spLawE.pre a i = (i = [] ∧ famPre d_s spLawE_A spLawE_pre a)) ∧ ∀ a i r b, spLawE.post a i r b = (famPost d_s spLawE_post a r b) := ⟨rfl, rfl, rfl, rfl, fun _ _ => rfl, fun _ _ _ _ => rfl⟩
def tb5 : Nat → Option VE.Spec := tabOf [(15, wkIn spPP), (13, wkIn spPP), (10, wkIn spEqVX), (16, wkIn spMkE), (17, wkIn spHeV)]
theorem tb5_15 : tb5 15 = some (wkIn spPP) := rfl
theorem tb5_13 : tb5 13 = some (wkIn spPP) := rfl
theorem tb5_10 : tb5 10 = some (wkIn spEqVX) := rfl
theorem tb5_16 : tb5 16 = some (wkIn spMkE) := rfl
theorem tb5_17 : tb5 17 = some (wkIn spHeV) := rfl
theorem tb5_ok : TabOK Tryd.prog rt0 tb5 := (tabOf_cons (by kernel_rfl) sat_spec_ParsePath (tabOf_cons (by kernel_rfl) sat_impl_ParsePath (tabOf_cons (by kernel_rfl) sat_laws_eqVerbS (tabOf_cons (by kernel_rfl) sat_laws_markVerbS (tabOf_cons (by kernel_rfl) sat_laws_heldVerbS tabOf_nil)))))
set_option maxHeartbeats 4000000 in
theorem satE_laws_FnExactParsePath_0 : Sat Tryd.prog rt0 5 (wkOut spLawE) := by
  refine fn_sat hm ttok (tab := tb5) tb5_ok Tryd.func5 (c := Tryd.f5.body.getD .skip) (by kernel_rfl) (ts := [.tmp 2]) (by kernel_rfl) Tryd.ntmps5 (sq := fun _ => true) (by kernel_rfl) ?_
  intro args ins pk hpre0 hpk
  obtain ⟨rfl, hpre0⟩ := hpre0
  obtain ⟨x, rfl, hpre, hdec⟩ := famPre_ex hpre0
  clear hpre0 hdec
  try simp only [spLawE_pre] at hpre
  replace hpk : pk + 0 ≤ pickLimit := hpk
  refine ⟨Nat.le_of_ble_eq_true rfl, ?_⟩
  simp (config := { maxSteps := 1000000 }) only [go_sem, ↓ifP_true, ↓ifP_false, ↓ifP_not, Nat.reduceLT, Nat.reduceAdd, Nat.reduceBEq, Nat.reduceSub, Nat.reduceLeDiff, Nat.reduceEqDiff, Nat.reduceMul, Int.reduceToNat, Int.reduceEq, Int.reduceLT, Int.reduceLE, Int.reduceAdd, Int.reduceSub, Int.reduceMul, reduceCtorEq, cond_true, cond_false, forall_eq', forall_eq, forall_const, implies_true, if_true, if_false, exists_eq_left', exists_eq', exists_eq, ne_eq, Tryd.f5, tb5_15, tb5_13, tb5_10, tb5_16, tb5_17, spLawE_q, spLawE_A, spLawE_pre, spLawE_post, spPP_q, spPP_A, spPP_pre, spPP_post, spEqVX_q, spEqVX_A, spEqVX_pre, spEqVX_post, spMkE_q, spMkE_A, spMkE_pre, spMkE_post, spHeV_q, spHeV_A, spHeV_pre, spHeV_post]
  repeat' (first | apply And.intro | (intro _) | omega | assumption | with_reducible rfl)
  all_goals (first | (omega; done) | ((have he := hpre.2.resolve_left ‹_›; rw [he]; simp [nPts]; done); done) | ((have he := hpre.2.resolve_left ‹_›; rw [he]; rfl); done) | (exact hpre.2.resolve_left ‹_›; done) | ((have he := hpre.2.resolve_left ‹_›; simp [he, nPts] at *; done); done) | (skip; done))
theorem satE_laws_FnExactParsePath : Sat Tryd.prog rt0 5 (wkIn spLawE) := sat_in (sat_out satE_laws_FnExactParsePath_0)
end Go.Proofs.YthphndhiacikaaaDoor
end
section
set_option maxRecDepth 100000
set_option linter.unusedSimpArgs false
set_option linter.unusedVariables false
namespace Go.Proofs.YthphndhiacikaaaDoor
open Go Go.VE
theorem fnRow13 : FnRow Tryd.prog 13 := ⟨⟨_, Tryd.func13, by kernel_rfl, by kernel_rfl⟩⟩
theorem fnRow16 : FnRow Tryd.prog 16 := ⟨⟨_, Tryd.func16, by kernel_rfl, by kernel_rfl⟩⟩
/-- The call of impl.ParsePath in the law. -/
theorem seg4 {a : Act} {w : World} {x : ByteArray} (hs : a.tmps.size = 66) (h0 : a.tmps.getD 0 undef = .string x) (hd : a.defers = []) {R : World → Value → Prop} (hc : Calls Tryd.prog 13 #[.string x] w fun e w' => ∃ v, e = .returned (.tuple #[v, .bool true]) ∧ R w' v) {Q : Exit → Act → World → Prop}
    (hQ : ∀ a' w' v, a'.defers = [] → a'.tmps.size = 66 → a'.tmps.getD 0 undef = .string x → a'.tmps.getD 3 undef = a.tmps.getD 3 undef → a'.tmps.getD 4 undef = a.tmps.getD 4 undef → a'.tmps.getD 5 undef = v → a'.tmps.getD 6 undef = .bool true → R w' v → Q .normal a' w') :
    (nav [1, 1, 1, 0] (Tryd.f5.body.getD .skip)).wp Tryd.prog Q a w := by
  simp only [Tryd.f5, Option.getD_some, nav_1, nav_0, nav_n]
  refine wp_region_list ?_
  refine wpList_plain rfl fun K hK => op_val (v := a.tmps.getD 0 undef) rfl (hK _ _ ?_)
  refine wpList_plain rfl fun K hK => op_call fnRow13 rfl (R := fun w' v => ∃ z, v = .tuple #[z, .bool true] ∧ R w' z) ?_ fun v w' hr => hK _ _ ?_
  · have e : (#[Operand.tmp 20] : Array Operand).map (a.put (some 20) (a.tmps.getD 0 undef)).eval = #[.string x] := by
      simp only [List.map_toArray, List.map_cons, List.map_nil, Act.eval]
      rw [putS (by omega), h0]
    rw [e]
    refine hc.mono ?_
    rintro e w' ⟨z, rfl, hz⟩
    exact ⟨_, rfl, z, rfl, hz⟩
  obtain ⟨z, rfl, hz⟩ := hr
  generalize ha1 : (a.put (some 20) (a.tmps.getD 0 undef)).put (some 21) (.tuple #[z, .bool true]) = a1
  have s1 : a1.tmps.size = 66 := by rw [← ha1, putZ, putZ, hs]
  have d1 : a1.defers = [] := by rw [← ha1]; exact hd
  have o1 : ∀ t, t ≠ 20 → t ≠ 21 → a1.tmps.getD t undef = a.tmps.getD t undef := fun t h1 h2 => by rw [← ha1, putO (Ne.symm h2), putO (Ne.symm h1)]
  have v1 : a1.tmps.getD 21 undef = .tuple #[z, .bool true] := by rw [← ha1, putS (by rw [putZ]; omega)]
  refine wpList_plain rfl fun K hK => op_val (v := a1.tmps.getD 21 undef) rfl (hK _ _ ?_)
  generalize ha2 : a1.put (some 19) (a1.tmps.getD 21 undef) = a2
  have s2 : a2.tmps.size = 66 := by rw [← ha2, putZ, s1]
  have d2 : a2.defers = [] := by rw [← ha2]; exact d1
  have o2 : ∀ t, t ≠ 19 → t ≠ 20 → t ≠ 21 → a2.tmps.getD t undef = a.tmps.getD t undef := fun t h0 h1 h2 => by rw [← ha2, putO (Ne.symm h0), o1 t h1 h2]
  have v2 : a2.eval (.tmp 19) = .tuple #[z, .bool true] := by
    show a2.tmps.getD 19 undef = _
    rw [← ha2, putS (by omega), v1]
  refine wpList_plain rfl fun K hK => op_ext rfl v2 (by simp) (hK _ _ ?_)
  generalize ha3 : a2.put (some 22) ((#[z, Value.bool true] : Array Value).getD 0 undef) = a3
  have s3 : a3.tmps.size = 66 := by rw [← ha3, putZ, s2]
  have d3 : a3.defers = [] := by rw [← ha3]; exact d2
  have o3 : ∀ t, t ≠ 22 → t ≠ 19 → t ≠ 20 → t ≠ 21 → a3.tmps.getD t undef = a.tmps.getD t undef := fun t h3 h0 h1 h2 => by rw [← ha3, putO (Ne.symm h3), o2 t h0 h1 h2]
  have v3 : a3.eval (.tmp 19) = .tuple #[z, .bool true] := by
    show a3.tmps.getD 19 undef = _
    rw [← ha3, putO (by decide)]; exact v2
  have w3 : a3.tmps.getD 22 undef = z := by rw [← ha3, putS (by omega)]; rfl
  refine wpList_plain rfl fun K hK => op_ext rfl v3 (by simp) (hK _ _ ?_)
  generalize ha4 : a3.put (some 23) ((#[z, Value.bool true] : Array Value).getD 1 undef) = a4
  have s4 : a4.tmps.size = 66 := by rw [← ha4, putZ, s3]
  have d4 : a4.defers = [] := by rw [← ha4]; exact d3
  have o4 : ∀ t, t ≠ 23 → t ≠ 22 → t ≠ 19 → t ≠ 20 → t ≠ 21 → a4.tmps.getD t undef = a.tmps.getD t undef := fun t h4 h3 h0 h1 h2 => by rw [← ha4, putO (Ne.symm h4), o3 t h3 h0 h1 h2]
  have v4 : a4.tmps.getD 22 undef = z := by rw [← ha4, putO (by decide)]; exact w3
  have w4 : a4.tmps.getD 23 undef = .bool true := by rw [← ha4, putS (by omega)]; rfl
  refine wpList_plain rfl fun K hK => op_val (v := a4.tmps.getD 22 undef) rfl (hK _ _ ?_)
  refine wpList_plain rfl fun K hK => op_val (v := (a4.put (some 5) (a4.tmps.getD 22 undef)).tmps.getD 23 undef) rfl (hK _ _ ?_)
  have ot : ∀ t, t ≠ 5 → t ≠ 6 → ((a4.put (some 5) (a4.tmps.getD 22 undef)).put (some 6) ((a4.put (some 5) (a4.tmps.getD 22 undef)).tmps.getD 23 undef)).tmps.getD t undef = a4.tmps.getD t undef := fun t h5 h6 => by rw [putO (Ne.symm h6), putO (Ne.symm h5)]
  refine wpList_nil (hQ _ _ z d4 (by rw [putZ, putZ, s4]) ?_ ?_ ?_ ?_ ?_ hz)
  · rw [ot 0 (by decide) (by decide), o4 0 (by decide) (by decide) (by decide) (by decide) (by decide), h0]
  · rw [ot 3 (by decide) (by decide), o4 3 (by decide) (by decide) (by decide) (by decide) (by decide)]
  · rw [ot 4 (by decide) (by decide), o4 4 (by decide) (by decide) (by decide) (by decide) (by decide)]
  · rw [putO (by decide), putS (by omega), v4]
  · rw [putS (by rw [putZ]; omega), putO (by decide), w4]
/-- The call of laws.markVerbS in the law. -/
theorem seg8 {a : Act} {w : World} {V : Value} (hs : a.tmps.size = 66) (h5 : a.tmps.getD 5 undef = V) (h7 : a.tmps.getD 7 undef = .int .i64 1) (hd : a.defers = []) {m : Int} {R : World → Prop} (hc : Calls Tryd.prog 16 #[V, .int .i64 1] w fun e w' => e = .returned (.int .i64 m) ∧ R w') {Q : Exit → Act → World → Prop}
    (hQ : ∀ a' w', a'.defers = [] → a'.tmps.size = 66 → (∀ t, t ≠ 7 → t ≠ 33 → t ≠ 34 → t ≠ 35 → a'.tmps.getD t undef = a.tmps.getD t undef) → a'.tmps.getD 7 undef = .int .i64 m → R w' → Q .normal a' w') :
    (nav [1, 1, 1, 1, 1, 1, 0] (Tryd.f5.body.getD .skip)).wp Tryd.prog Q a w := by
  simp only [Tryd.f5, Option.getD_some, nav_1, nav_0, nav_n]
  refine wp_region_list ?_
  refine wpList_plain rfl fun K hK => op_val (v := a.tmps.getD 5 undef) rfl (hK _ _ ?_)
  generalize ha1 : a.put (some 33) (a.tmps.getD 5 undef) = a1
  have s1 : a1.tmps.size = 66 := by rw [← ha1, putZ, hs]
  have d1 : a1.defers = [] := by rw [← ha1]; exact hd
  have o1 : ∀ t, t ≠ 33 → a1.tmps.getD t undef = a.tmps.getD t undef := fun t h1 => by rw [← ha1, putO (Ne.symm h1)]
  have v1 : a1.tmps.getD 33 undef = V := by rw [← ha1, putS (by omega), h5]
  refine wpList_plain rfl fun K hK => op_val (v := a1.tmps.getD 7 undef) rfl (hK _ _ ?_)
  generalize ha2 : a1.put (some 34) (a1.tmps.getD 7 undef) = a2
  have s2 : a2.tmps.size = 66 := by rw [← ha2, putZ, s1]
  have d2 : a2.defers = [] := by rw [← ha2]; exact d1
  have o2 : ∀ t, t ≠ 33 → t ≠ 34 → a2.tmps.getD t undef = a.tmps.getD t undef := fun t h1 h2 => by rw [← ha2, putO (Ne.symm h2), o1 t h1]
  have v2 : a2.tmps.getD 33 undef = V := by rw [← ha2, putO (by decide), v1]
  have w2 : a2.tmps.getD 34 undef = .int .i64 1 := by rw [← ha2, putS (by omega), o1 7 (by decide), h7]
  refine wpList_plain rfl fun K hK => op_call fnRow16 rfl (R := fun w' v => v = .int .i64 m ∧ R w') ?_ fun v w' hr => hK _ _ ?_
  · have e : (#[Operand.tmp 33, Operand.tmp 34] : Array Operand).map a2.eval = #[V, .int .i64 1] := by
      simp only [List.map_toArray, List.map_cons, List.map_nil, Act.eval]
      rw [v2, w2]
    rw [e]
    refine hc.mono ?_
    rintro e w' ⟨rfl, hr⟩
    exact ⟨_, rfl, rfl, hr⟩
  obtain ⟨rfl, hr⟩ := hr
  refine wpList_plain rfl fun K hK => op_val (v := (a2.put (some 35) (.int .i64 m)).tmps.getD 35 undef) rfl (hK _ _ ?_)
  refine wpList_nil (hQ _ _ d2 (by rw [putZ, putZ, s2]) (fun t h7 h33 h34 h35 => ?_) ?_ hr)
  · rw [putO (Ne.symm h7), putO (Ne.symm h35), o2 t h33 h34]
  · rw [putS (by rw [putZ]; omega), putS (by omega)]
end Go.Proofs.YthphndhiacikaaaDoor
end
section
set_option maxRecDepth 100000
set_option linter.unusedSimpArgs false
set_option linter.unusedVariables false
namespace Go.Proofs.YthphndhiacikaaaDoor
open Go Go.VE
theorem rc_slice {w : World} {Mt : Nat → Prop} {v : Value} {f : Bool} {es : List (List C)} (h : RC w Mt v (.sl f es)) (hne : es ≠ []) : ∃ A n c, v = .slice (some A) n c := by
  cases h with
  | sl _ _ k a p n cap hn ht hle hmax hk ha u hc hr =>
    obtain ⟨rfl, _⟩ := ha hne
    exact ⟨p, n, cap, rfl⟩
theorem d_lvb_lvb_of (f g : Bool) (p q : List Verb) : d_lvb_lvb [.c (.sl f (p.map vbC)), .c (.sl g (q.map vbC))] = some (p, q) := by
  unfold d_lvb_lvb
  simp only [vbC_ds]
theorem d_lvb_i_of (f : Bool) (p : List Verb) (k : Int) : d_lvb_i [.c (.sl f (p.map vbC)), I k] = some (p, k) := by
  unfold d_lvb_i
  simp only [vbC_ds]
/-- The law at a text that is a path's. -/
theorem law_x {x : ByteArray} {p : List Verb} (hp : pp (tx x) = some p) (hne : p ≠ []) (hsz : ¬ (1048576 : Int) < x.size) {w0 : World} (h0 : FrzOK rt0 w0) :
    Calls Tryd.prog 5 #[.string x] w0 fun e w' => e = .returned (.bool true) ∧ Keeps noB w0 w' := by
  have hc : Tryd.f5.body = some (Code.seq (nav [0] (Tryd.f5.body.getD .skip)) (Code.seq (nav [1, 0] (Tryd.f5.body.getD .skip)) (Code.seq (nav [1, 1, 0] (Tryd.f5.body.getD .skip)) (Code.seq (nav [1, 1, 1, 0] (Tryd.f5.body.getD .skip)) (Code.seq (nav [1, 1, 1, 1, 0] (Tryd.f5.body.getD .skip)) (Code.seq (nav [1, 1, 1, 1, 1, 0] (Tryd.f5.body.getD .skip)) (Code.seq (nav [1, 1, 1, 1, 1, 1, 0] (Tryd.f5.body.getD .skip)) (nav [1, 1, 1, 1, 1, 1, 1] (Tryd.f5.body.getD .skip))))))))) := by kernel_rfl
  have hnum := vPath_num (pp_some hp).1
  refine calls_of_wp Tryd.func5 hc ?_
  have hnt : Tryd.f5.ntmps = 66 := Tryd.ntmps5
  have hs : ({ tmps := #[.string x] ++ Array.replicate (Tryd.f5.ntmps - (#[Value.string x] : Array Value).size) undef, defers := [] } : Act).tmps.size = 66 := by rw [hnt]; simp
  have ht0 : ({ tmps := #[.string x] ++ Array.replicate (Tryd.f5.ntmps - (#[Value.string x] : Array Value).size) undef, defers := [] } : Act).tmps.getD 0 undef = .string x := by rw [hnt]; simp
  have hdf : ({ tmps := #[.string x] ++ Array.replicate (Tryd.f5.ntmps - (#[Value.string x] : Array Value).size) undef, defers := [] } : Act).defers = [] := rfl
  generalize ({ tmps := #[.string x] ++ Array.replicate (Tryd.f5.ntmps - (#[Value.string x] : Array Value).size) undef, defers := [] } : Act) = a0 at hs ht0 hdf
  refine wp_seq (Cut.run hm ttok tbL3_ok (sq := fun _ => true) (by kernel_rfl) (cut0 hdf h0 (.cons (ma_v ht0 rfl) .nil)) hs (pL0 x) ⟨fun s a1 w1 hq hr => ?_, fun i s a' w' hq hr => hq.elim, fun s a' w' hq hr => hq.elim⟩)
  obtain ⟨en1, e01⟩ := hq
  obtain ⟨β1, cp1, Rd1, G1⟩ := hr
  have K1 : Keeps noB w0 w1 := G1.cut_end.1.mono fun g _ hg => insH_nil hg
  refine wp_seq (Cut.run hm ttok tbL3_ok (sq := fun _ => true) (by kernel_rfl) (cut0 G1.defers (h0.keep K1 fun g _ h => h) (.cons (ma_v (G1.v_out e01) rfl) .nil)) (G1.size.trans en1) (pL1 x hsz) ⟨fun s a2 w2 hq hr => ?_, fun i s a' w' hq hr => hq.elim, fun s a' w' hq hr => hq.elim⟩)
  obtain ⟨en2, e02⟩ := hq
  obtain ⟨β2, cp2, Rd2, G2⟩ := hr
  have K2 : Keeps noB w0 w2 := K1.trans (G2.cut_end.1.mono fun g _ hg => insH_nil hg) (fun g _ h => h) (fun g _ h => h)
  refine wp_seq (Cut.run hm ttok tbL3_ok (sq := fun _ => true) (by kernel_rfl) (cut0 G2.defers (h0.keep K2 fun g _ h => h) (.cons (ma_v (G2.v_out e02) rfl) .nil)) (G2.size.trans en2) (pL3 x p hsz hp) ⟨fun s a3 w3 hq hr => ?_, fun i s a' w' hq hr => hq.elim, fun s a' w' hq hr => hq.elim⟩)
  obtain ⟨en3, e03, e33, e43⟩ := hq
  obtain ⟨β3, cp3, Rd3, G3⟩ := hr
  have K3 : Keeps noB w0 w3 := K2.trans (G3.cut_end.1.mono fun g _ hg => insH_nil hg) (fun g _ h => h) (fun g _ h => h)
  have h3 : FrzOK rt0 w3 := h0.keep K3 fun g _ h => h
  have r3 := G3.sl_out e33
  obtain ⟨A0, n0, c0, hV0⟩ := rc_slice r3 (by simpa using hne)
  rw [hV0] at r3
  have t43 := G3.v_out e43
  refine wp_seq (seg4 (R := fun w' v => ∃ go cp N, Keeps noB w3 w' ∧ Top w' w3.heap.size v true go cp N ∧ N.map Nd.vb = p) (G3.size.trans en3) (G3.v_out e03) G3.defers ((parse_x hp hne h3).mono fun e w' ⟨v, go, cp, N, q1, q2, q3, q4⟩ => ⟨v, q1, go, cp, N, q2, q3, q4⟩) fun a4 w4 V d4 s4 t04 t34 t44 t54 t64 hR => ?_)
  obtain ⟨go, cp, N, K4, ht4, hN⟩ := hR
  rw [hV0] at t34
  rw [t43] at t44
  have hlen : N.length = p.length := by rw [← hN]; simp
  obtain ⟨g, c, _, rfl, _⟩ := hV_some ht4.h (by rw [hlen]; exact List.length_pos_iff.2 hne)
  have h4 : FrzOK rt0 w4 := h3.keep K4 fun g _ h => h
  have rV : RC w4 noB (.slice (some ⟨g, 0, none⟩) N.length c) (.sl false (p.map vbC)) := by
    have := ht4.rc (Mt := noB) fun g _ h => h
    rw [hN] at this
    exact this
  have rV0 : RC w4 noB (.slice (some A0) n0 c0) (.sl false (p.map vbC)) := r3.keep K4 fun g h => h
  have tb5 : TabOK Tryd.prog (frz rt0 w4) (tbL5 (.slice (some ⟨g, 0, none⟩) N.length c) (.slice (some A0) n0 c0)) := by
    refine tabOf_cons (by kernel_rfl) (sat_exact (args0 := [.c (.sl false (p.map vbC)), .c (.sl false (p.map vbC))]) (sat_out sat_laws_eqVerbS_0) (Nat.zero_le _) h4 rfl ⟨rfl, famPre_of (d_lvb_lvb_of _ _ _ _) rfl ?_⟩ (fun j x0 x1 hx0 hx1 w' hk M Rd H v hm => ?_) fun r bs hq => ?_) tabOf_nil
    · show _ ∧ _ ∧ _ ∧ _
      omega
    · match j with
      | 0 =>
        cases hx0; cases hx1
        have h2 : RC w' M v (.v _) := hm
        cases h2
        exact ma_sl (frz_rc hk rV)
      | 1 =>
        cases hx0; cases hx1
        have h2 : RC w' M v (.v _) := hm
        cases h2
        exact ma_sl (frz_rc hk rV0)
      | j + 2 => simp at hx0
    · exact (famPost_of (d_lvb_lvb_of _ _ _ _) hq).1.trans (by rw [decide_eq_true rfl])
  have hF4 : FrzOK (frz rt0 w4) w4 := ⟨fun g _ => rfl, fun g hg => List.mem_range.1 hg⟩
  refine wp_seq (Cut.run hm ttok tb5 (sq := fun _ => true) (by kernel_rfl) (cut0 d4 hF4 (.cons (ma_v t04 rfl) (.cons (ma_v t34 rfl) (.cons (ma_v t44 rfl) (.cons (ma_v t54 rfl) (.cons (ma_v t64 rfl) .nil)))))) s4 (pL5 x ⟨g, 0, none⟩ A0 N.length c n0 c0) ⟨fun s a5 w5 hq hr => ?_, fun i s a' w' hq hr => hq.elim, fun s a' w' hq hr => hq.elim⟩)
  obtain ⟨en5, e05, e35, e45, e55⟩ := hq
  obtain ⟨β5, cp5, Rd5, G5⟩ := hr
  have K5 : Keeps noB w4 w5 := G5.cut_end.1.mono fun g _ hg => insH_nil hg
  have hF5 : FrzOK (frz rt0 w4) w5 := hF4.keep K5 fun g _ h => h
  refine wp_seq (Cut.run hm ttok tb5 (sq := fun _ => true) (by kernel_rfl) (cut0 G5.defers hF5 (.cons (ma_v (G5.v_out e05) rfl) (.cons (ma_v (G5.v_out e35) rfl) (.cons (ma_v (G5.v_out e45) rfl) (.cons (ma_v (G5.v_out e55) rfl) .nil))))) (G5.size.trans en5) (pL7 x ⟨g, 0, none⟩ A0 N.length c n0 c0) ⟨fun s a6 w6 hq hr => ?_, fun i s a' w' hq hr => hq.elim, fun s a' w' hq hr => hq.elim⟩)
  obtain ⟨en6, e06, e36, e46, e56, e76⟩ := hq
  obtain ⟨β6, cp6, Rd6, G6⟩ := hr
  have K6 : Keeps noB w4 w6 := K5.trans (G6.cut_end.1.mono fun g _ hg => insH_nil hg) (fun g _ h => h) (fun g _ h => h)
  have h6 : FrzOK rt0 w6 := h4.keep K6 fun g _ h => h
  have ht6 := ht4.keep K6 fun g _ _ h => h
  refine wp_seq (seg8 (R := fun w' => ∃ N', Keeps (fun g => w3.heap.size ≤ g) w6 w' ∧ Top w' w3.heap.size (.slice (some ⟨g, 0, none⟩) N.length c) true go cp N' ∧ N'.map Nd.vb = mkV 1 p) (m := 1 + p.length + 2 * nPts p) (G6.size.trans en6) (G6.v_out e56) (G6.v_out e76) G6.defers ((mark_x ht6 h6 (fun g hg => h3.2 g hg) (by omega) (by rw [hN]; omega) (by omega)).mono fun e w' ⟨N', q1, q2, q3, q4⟩ => ⟨by rw [q1, hN, hlen], N', q2, q3, by rw [q4, hN]⟩) fun a7 w7 d7 s7 o7 t77 hR => ?_)
  obtain ⟨N', K7, ht7, hN'⟩ := hR
  have h7 : FrzOK rt0 w7 := h6.keep K7 fun g hg hh => by have := h3.2 g hg; omega
  have K37 : Keeps (fun g => w3.heap.size ≤ g) w3 w7 := (K4.trans K6 (M := noB) (fun g _ h => h) (fun g _ h => h)).trans K7 (fun g _ h => h.elim) (fun g _ h => h)
  have K07 : Keeps noB w0 w7 := K3.trans K37 (fun g _ h => h) (fun g hg hh => by have := K3.size; omega)
  have rV7 : RC w7 noB (.slice (some A0) n0 c0) (.sl false (p.map vbC)) := (r3.old.keep K37 fun g h => h).less fun g h => h.elim
  have rW7 : RC w7 noB (.slice (some ⟨g, 0, none⟩) N.length c) (.sl false ((mkV 1 p).map vbC)) := by
    have := ht7.rc (Mt := noB) fun g _ h => h
    rw [hN'] at this
    exact this
  have tb9 : TabOK Tryd.prog (frz rt0 w7) (tbL9 (.slice (some ⟨g, 0, none⟩) N.length c) (1 + p.length + 2 * nPts p)) := by
    refine tabOf_cons (by kernel_rfl) (sat_exact (args0 := [.c (.sl false ((mkV 1 p).map vbC)), I 1]) (sat_out sat_laws_heldVerbS_0) (Nat.zero_le _) h7 rfl ⟨rfl, famPre_of (d_lvb_i_of _ _ _) rfl ?_⟩ (fun j x0 x1 hx0 hx1 w' hk M Rd H v hm => ?_) fun r bs hq => ?_) (tabOf_cons (by kernel_rfl) (sat_frz sat_impl_ParsePath h7) (tabOf_cons (by kernel_rfl) (sat_frz sat_laws_eqVerbS h7) tabOf_nil))
    · show _ ∧ _ ∧ _ ∧ _
      rw [mkV_len, mkV_np, mkV_mkV]
      exact ⟨by omega, by omega, by omega, rfl⟩
    · match j with
      | 0 =>
        cases hx0; cases hx1
        have h2 : RC w' M v (.v _) := hm
        cases h2
        exact ma_sl (frz_rc hk rW7)
      | 1 =>
        cases hx0; cases hx1
        have h2 : RC w' M v (.v _) := hm
        cases h2
        exact ma_v rfl rfl
      | j + 2 => simp at hx0
    · exact (famPost_of (d_lvb_i_of _ _ _) hq).1.trans (by rw [mkV_len, mkV_np])
  have hF7 : FrzOK (frz rt0 w7) w7 := ⟨fun g _ => rfl, fun g hg => List.mem_range.1 hg⟩
  have t07 := (o7 0 (by decide) (by decide) (by decide) (by decide)).trans (G6.v_out e06)
  have t37 := (o7 3 (by decide) (by decide) (by decide) (by decide)).trans (G6.v_out e36)
  have t47 := (o7 4 (by decide) (by decide) (by decide) (by decide)).trans (G6.v_out e46)
  have t57 := (o7 5 (by decide) (by decide) (by decide) (by decide)).trans (G6.v_out e56)
  refine Cut.run hm ttok tb9 (sq := fun _ => true) (by kernel_rfl) (cut0 d7 hF7 (.cons (ma_v t07 rfl) (.cons (ma_sl (by rw [t37]; exact rV7)) (.cons (ma_v t47 rfl) (.cons (ma_v t57 rfl) (.cons (ma_v t77 rfl) .nil)))))) s7 (pL9 x ⟨g, 0, none⟩ N.length c p (1 + p.length + 2 * nPts p) hsz hp (by omega) hnum) ⟨fun s a' w' hq hr => hq.elim, fun i s a' w' hq hr => ?_, fun s a9 w9 hq hr => ?_⟩
  · obtain ⟨e, _⟩ := hq
    cases e
  obtain ⟨_, e29⟩ := hq
  obtain ⟨β9, cp9, Rd9, G9⟩ := hr
  have K9 : Keeps noB w7 w9 := G9.cut_end.1.mono fun g _ hg => insH_nil hg
  have hres : Tryd.f5.results = #[.tmp 2] := by kernel_rfl
  have e29' := G9.v_out e29
  refine ⟨G9.defers, .bool true, ?_, rfl, K07.trans K9 (fun g _ h => h) (fun g _ h => h)⟩
  rw [← e29']; simp [results, hres]
end Go.Proofs.YthphndhiacikaaaDoor
end
section
set_option maxRecDepth 100000
set_option linter.unusedSimpArgs false
set_option linter.unusedVariables false
namespace Go.Proofs.YthphndhiacikaaaDoor
open Go Go.VE
def spLawP_A : ByteArray → List AV
  | x => [.c (.v (.string x))]
def spLawP_pre : ByteArray → Prop
  | x => x.size ≤ 9223372036854775807
def spLawP_post : ByteArray → AV → List Box → Prop
  | x, r, bs => r = B (true) ∧ bs = []
def spLawP : VE.Spec := famSpec spLawP_A d_s spLawP_pre spLawP_post 0 false
theorem spLawP_q : spLawP.flat = false ∧ spLawP.mt = [] ∧ spLawP.shut = false ∧ spLawP.cost = 0 ∧ (∀ a i, spLawP.pre a i = (i = [] ∧ famPre d_s spLawP_A spLawP_pre a)) ∧ ∀ a i r b, spLawP.post a i r b = (famPost d_s spLawP_post a r b) := ⟨rfl, rfl, rfl, rfl, fun _ _ => rfl, fun _ _ _ _ => rfl⟩
theorem sat_laws_FnExactParsePath_0 : Sat Tryd.prog rt0 5 spLawP := by
  refine sat_calm (fun a i h => h.1) fun w Av Rd pk args vs β0 cp0 T hpre => ?_
  obtain ⟨_, hpre⟩ := hpre
  obtain ⟨x, rfl, hx, _⟩ := famPre_ex hpre
  have h0 : FrzOK rt0 w := ⟨T.glob.1, fun g hg => (T.glob.2 g hg).1⟩
  have e := args1 T.size (arg_v (T.args 0 _ rfl))
  subst e
  have hpost : spLawP.post (spLawP_A x) [] (B true) [] := ⟨rfl, rfl⟩
  by_cases hc : (1048576 : Int) < x.size ∨ (pp (tx x)).getD [] = []
  · refine (sat_raw (sat_out satE_laws_FnExactParsePath_0) (Nat.zero_le _) h0 (args := [.c (.v (.string x))]) rfl (fun j x0 hj => ?_) ⟨rfl, famPre_of (x := x) rfl rfl ⟨hx, hc⟩⟩).mono fun e w' ⟨v, r, bs, β, cp, Rd', h1, h2, h3, h4⟩ => ?_
    · match j with
      | 0 => cases hj; exact ma_v rfl rfl
      | j + 1 => simp at hj
    · have hr : r = B true := (show spLawE_post x r bs from h2).1
      subst hr
      have h6 : RC w' noB v (.v (.bool true)) := h4
      cases h6
      exact ⟨_, _, h1, hpost, h3, fun M Rd H _ => RC.v _ rfl⟩
  · cases hp : pp (tx x) with
    | none => exact absurd (.inr (by rw [hp]; rfl)) hc
    | some p =>
      have hne : p ≠ [] := fun e => hc (.inr (by rw [hp, e]; rfl))
      refine (law_x hp hne (fun h => hc (.inl h)) h0).mono fun e w' ⟨h1, h2⟩ => ?_
      exact ⟨_, _, h1, hpost, h2, fun M Rd H _ => RC.v _ rfl⟩
end Go.Proofs.YthphndhiacikaaaDoor
end
