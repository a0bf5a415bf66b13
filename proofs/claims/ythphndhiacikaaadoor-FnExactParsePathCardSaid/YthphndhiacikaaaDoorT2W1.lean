/- Contracts of functions of the program vectorraster, each proved for all states that fit its description. No conditions. -/
import Derived.Test.YthphndhiacikaaaDoorT2KY
import Derived.Test.YthphndhiacikaaaDoorPC
set_option maxRecDepth 100000
set_option linter.unusedSimpArgs false
set_option linter.unusedVariables false
namespace Go.Proofs.YthphndhiacikaaaDoor
open Go Go.VE
theorem eqL5_step {α : Type} {a b : List α} {i : Int} {x y : α} (ha : a[i.toNat]? = some x) (hb : b[i.toNat]? = some y) (e : x = y) (h0 : 0 ≤ i) (h : a.take i.toNat = b.take i.toNat) : a.take (i + 1).toNat = b.take (i + 1).toNat := by
  subst e; rw [takeN ha h0, takeN hb h0, h]
theorem eqL5_no {α : Type} {a b : List α} {i : Int} {x y : α} (ha : a[i.toNat]? = some x) (hb : b[i.toNat]? = some y) (h : x ≠ y) : a ≠ b := fun e => by
  rw [e, hb] at ha; exact h (Option.some.inj ha).symm
theorem eqL5_end {α : Type} {a b : List α} {i : Int} (hl : (a.length : Int) = b.length) (hi : ¬ i < (a.length : Int)) (h : a.take i.toNat = b.take i.toNat) : a = b := by
  rwa [takeA (by omega), takeA (by omega)] at h
theorem eqL5_len {α : Type} {a b : List α} (hl : ¬ (a.length : Int) = b.length) : a ≠ b := fun e => hl (by rw [e])
theorem vb_eq5 {v w : Verb} (h1 : v.k = w.k) (h2 : v.ps = w.ps) : v = w := by
  cases v; cases w; cases h1; cases h2; rfl
def spEqPs5_A : (List Pt) × (List Pt) → List AV
  | (a, b) => [.c (.sl false (a.map ptC)), .c (.sl false (b.map ptC))]
def spEqPs5_pre : (List Pt) × (List Pt) → Prop
  | (a, b) => a.length ≤ 1000000000 ∧ b.length ≤ 1000000000
def spEqPs5_post : (List Pt) × (List Pt) → AV → List Box → Prop
  | (a, b), r, bs => r = B (decide (a = b)) ∧ bs = []
def spEqPs5 : VE.Spec := famSpec spEqPs5_A d_lpt_lpt spEqPs5_pre spEqPs5_post 0 true
theorem spEqPs5_q : spEqPs5.flat = true ∧ spEqPs5.mt = [] ∧ spEqPs5.shut = false ∧ spEqPs5.cost = 0 ∧ (∀ a i, spEqPs5.pre a i = (i = [] ∧ famPre d_lpt_lpt spEqPs5_A spEqPs5_pre a)) ∧ ∀ a i r b, spEqPs5.post a i r b = (famPost d_lpt_lpt spEqPs5_post a r b) := ⟨rfl, rfl, rfl, rfl, fun _ _ => rfl, fun _ _ _ _ => rfl⟩
def tb35 : Nat → Option VE.Spec := tabOf []
theorem tb35_ok : TabOK Tryd.prog rt0 tb35 := tabOf_nil
set_option maxHeartbeats 4000000 in
theorem sat_laws_equalPoints_0 : Sat Tryd.prog rt0 35 (wkOut spEqPs5) := by
  refine fn_sat hm ttok (tab := tb35) tb35_ok Tryd.func35 (c := Tryd.f35.body.getD .skip) (by kernel_rfl) (ts := [.tmp 4]) (by kernel_rfl) Tryd.ntmps35 (sq := fun _ => true) (by kernel_rfl) ?_
  intro args ins pk hpre0 hpk
  obtain ⟨rfl, hpre0⟩ := hpre0
  obtain ⟨⟨a, b⟩, rfl, hpre, hdec⟩ := famPre_ex hpre0
  clear hpre0 hdec
  try simp only [spEqPs5_pre] at hpre
  replace hpk : pk + 0 ≤ pickLimit := hpk
  refine ⟨Nat.le_of_ble_eq_true rfl, ?_⟩
  simp (config := { maxSteps := 1000000 }) only [go_sem, ↓ifP_true, ↓ifP_false, ↓ifP_not, Nat.reduceLT, Nat.reduceAdd, Nat.reduceBEq, Nat.reduceSub, Nat.reduceLeDiff, Nat.reduceEqDiff, Nat.reduceMul, Int.reduceToNat, Int.reduceEq, Int.reduceLT, Int.reduceLE, Int.reduceAdd, Int.reduceSub, Int.reduceMul, reduceCtorEq, cond_true, cond_false, forall_eq', forall_eq, forall_const, implies_true, if_true, if_false, exists_eq_left', exists_eq', exists_eq, ne_eq, Tryd.f35, spEqPs5_q, spEqPs5_A, spEqPs5_pre, spEqPs5_post]
  repeat' (first | apply And.intro | (intro _) | omega | assumption | with_reducible rfl)
  any_goals
    refine loopS (α := Int) false [2, 3, 4, 5, 6, 7, 8, 9, 10, 11, 12, 13, 14, 15, 16, 17, 18, 19, 20, 21, 22, 23, 24, 25] (fun σ => []) (fun σ x => [(5, I x)]) (fun σ x => []) (fun i => 0) (fun σ => gI (σ.get 5)) (fun σ τ => []) (fun i => 0 ≤ i ∧ i ≤ a.length ∧ a.take i.toNat = b.take i.toNat) (fun i => (a.length - i).toNat) ⟨by (simp (config := { maxSteps := 1000000 }) only [go_sem, ↓ifP_true, ↓ifP_false, ↓ifP_not, Nat.reduceLT, Nat.reduceAdd, Nat.reduceBEq, Nat.reduceSub, Nat.reduceLeDiff, Nat.reduceEqDiff, Nat.reduceMul, Int.reduceToNat, Int.reduceEq, Int.reduceLT, Int.reduceLE, Int.reduceAdd, Int.reduceSub, Int.reduceMul, reduceCtorEq, cond_true, cond_false, forall_eq', forall_eq, forall_const, implies_true, if_true, if_false, exists_eq_left', exists_eq', exists_eq, ne_eq, Tryd.f35, spEqPs5_q, spEqPs5_A, spEqPs5_pre, spEqPs5_post]; (repeat' (first | apply And.intro | (intro _) | omega | assumption | with_reducible rfl)); all_goals (first | rfl)), ?_⟩
    rintro i hinv
    try dsimp only at hinv
    simp (config := { maxSteps := 1000000 }) only [go_sem, ↓ifP_true, ↓ifP_false, ↓ifP_not, Nat.reduceLT, Nat.reduceAdd, Nat.reduceBEq, Nat.reduceSub, Nat.reduceLeDiff, Nat.reduceEqDiff, Nat.reduceMul, Int.reduceToNat, Int.reduceEq, Int.reduceLT, Int.reduceLE, Int.reduceAdd, Int.reduceSub, Int.reduceMul, reduceCtorEq, cond_true, cond_false, forall_eq', forall_eq, forall_const, implies_true, if_true, if_false, exists_eq_left', exists_eq', exists_eq, ne_eq, Tryd.f35, spEqPs5_q, spEqPs5_A, spEqPs5_pre, spEqPs5_post]
    repeat' (first | apply And.intro | (intro _) | omega | assumption | with_reducible rfl)
  
  all_goals (first | (exact eqL5_step ‹_› ‹_› ‹_› hinv.1 hinv.2.2; done) | (exact (decide_eq_false (eqL5_no ‹_› ‹_› ‹_›)).symm; done) | (exact (decide_eq_true (eqL5_end ‹_› ‹_› hinv.2.2)).symm; done) | (exact (decide_eq_false (eqL5_len ‹_›)).symm; done))
theorem sat_laws_equalPoints : Sat Tryd.prog rt0 35 (wkIn spEqPs5) := sat_in (sat_out sat_laws_equalPoints_0)
def spEqV_A : (List Verb) × (List Verb) → List AV
  | (a, b) => [.c (.sl false (a.map vbC)), .c (.sl false (b.map vbC))]
def spEqV_pre : (List Verb) × (List Verb) → Prop
  | (a, b) => a.length ≤ 1000000000 ∧ b.length ≤ 1000000000 ∧ nPts a ≤ 1000000000 ∧ nPts b ≤ 1000000000
def spEqV_post : (List Verb) × (List Verb) → AV → List Box → Prop
  | (a, b), r, bs => r = B (decide (a = b)) ∧ bs = []
def spEqV : VE.Spec := famSpec spEqV_A d_lvb_lvb spEqV_pre spEqV_post 0 true
theorem spEqV_q : spEqV.flat = true ∧ spEqV.mt = [] ∧ spEqV.shut = false ∧ spEqV.cost = 0 ∧ (∀ a i, spEqV.pre a i = (i = [] ∧ famPre d_lvb_lvb spEqV_A spEqV_pre a)) ∧ ∀ a i r b, spEqV.post a i r b = (famPost d_lvb_lvb spEqV_post a r b) := ⟨rfl, rfl, rfl, rfl, fun _ _ => rfl, fun _ _ _ _ => rfl⟩
def tb14 : Nat → Option VE.Spec := tabOf [(35, wkIn spEqPs5)]
theorem tb14_35 : tb14 35 = some (wkIn spEqPs5) := rfl
theorem tb14_ok : TabOK Tryd.prog rt0 tb14 := (tabOf_cons (by kernel_rfl) sat_laws_equalPoints tabOf_nil)
set_option maxHeartbeats 4000000 in
theorem sat_laws_equalPath_0 : Sat Tryd.prog rt0 14 (wkOut spEqV) := by
  refine fn_sat hm ttok (tab := tb14) tb14_ok Tryd.func14 (c := Tryd.f14.body.getD .skip) (by kernel_rfl) (ts := [.tmp 4]) (by kernel_rfl) Tryd.ntmps14 (sq := fun _ => true) (by kernel_rfl) ?_
  intro args ins pk hpre0 hpk
  obtain ⟨rfl, hpre0⟩ := hpre0
  obtain ⟨⟨a, b⟩, rfl, hpre, hdec⟩ := famPre_ex hpre0
  clear hpre0 hdec
  try simp only [spEqV_pre] at hpre
  replace hpk : pk + 0 ≤ pickLimit := hpk
  refine ⟨Nat.le_of_ble_eq_true rfl, ?_⟩
  simp (config := { maxSteps := 1000000 }) only [go_sem, ↓ifP_true, ↓ifP_false, ↓ifP_not, Nat.reduceLT, Nat.reduceAdd, Nat.reduceBEq, Nat.reduceSub, Nat.reduceLeDiff, Nat.reduceEqDiff, Nat.reduceMul, Int.reduceToNat, Int.reduceEq, Int.reduceLT, Int.reduceLE, Int.reduceAdd, Int.reduceSub, Int.reduceMul, reduceCtorEq, cond_true, cond_false, forall_eq', forall_eq, forall_const, implies_true, if_true, if_false, exists_eq_left', exists_eq', exists_eq, ne_eq, Tryd.f14, tb14_35, spEqV_q, spEqV_A, spEqV_pre, spEqV_post, spEqPs5_q, spEqPs5_A, spEqPs5_pre, spEqPs5_post]
  repeat' (first | apply And.intro | (intro _) | omega | assumption | with_reducible rfl)
  any_goals
    refine loopS (α := Int) false [2, 3, 4, 5, 6, 7, 8, 9, 10, 11, 12, 13, 14, 15, 16, 17, 18, 19, 20, 21, 22, 23, 24, 25, 26, 27, 28, 29, 30, 31, 32, 33, 34, 35, 36, 37, 38, 39, 40, 41] (fun σ => []) (fun σ x => [(5, I x)]) (fun σ x => []) (fun i => 0) (fun σ => gI (σ.get 5)) (fun σ τ => []) (fun i => 0 ≤ i ∧ i ≤ a.length ∧ a.take i.toNat = b.take i.toNat) (fun i => (a.length - i).toNat) ⟨by (simp (config := { maxSteps := 1000000 }) only [go_sem, ↓ifP_true, ↓ifP_false, ↓ifP_not, Nat.reduceLT, Nat.reduceAdd, Nat.reduceBEq, Nat.reduceSub, Nat.reduceLeDiff, Nat.reduceEqDiff, Nat.reduceMul, Int.reduceToNat, Int.reduceEq, Int.reduceLT, Int.reduceLE, Int.reduceAdd, Int.reduceSub, Int.reduceMul, reduceCtorEq, cond_true, cond_false, forall_eq', forall_eq, forall_const, implies_true, if_true, if_false, exists_eq_left', exists_eq', exists_eq, ne_eq, Tryd.f14, tb14_35, spEqV_q, spEqV_A, spEqV_pre, spEqV_post, spEqPs5_q, spEqPs5_A, spEqPs5_pre, spEqPs5_post]; (repeat' (first | apply And.intro | (intro _) | omega | assumption | with_reducible rfl)); all_goals (first | rfl)), ?_⟩
    rintro i hinv
    try dsimp only at hinv
    rcases elemAt a i (by omega) with ⟨hlt, x, hk⟩ | hlt
    all_goals (first | ((have hlt2 := of_eq_true hlt); (obtain ⟨y, hy⟩ : ∃ y, b[i.toNat]? = some y := ⟨_, List.getElem?_eq_getElem (by omega)⟩); (have h8 := nPts_mem hk); (have h7 := nPts_mem hy); all_goals (first | simp (config := { maxSteps := 1000000 }) only [go_sem, ↓ifP_true, ↓ifP_false, ↓ifP_not, Nat.reduceLT, Nat.reduceAdd, Nat.reduceBEq, Nat.reduceSub, Nat.reduceLeDiff, Nat.reduceEqDiff, Nat.reduceMul, Int.reduceToNat, Int.reduceEq, Int.reduceLT, Int.reduceLE, Int.reduceAdd, Int.reduceSub, Int.reduceMul, reduceCtorEq, cond_true, cond_false, forall_eq', forall_eq, forall_const, implies_true, if_true, if_false, exists_eq_left', exists_eq', exists_eq, ne_eq, Tryd.f14, tb14_35, spEqV_q, spEqV_A, spEqV_pre, spEqV_post, spEqPs5_q, spEqPs5_A, spEqPs5_pre, spEqPs5_post, hlt, hk, hy] | simp (config := { maxSteps := 1000000 }) only [go_sem, ↓ifP_true, ↓ifP_false, ↓ifP_not, Nat.reduceLT, Nat.reduceAdd, Nat.reduceBEq, Nat.reduceSub, Nat.reduceLeDiff, Nat.reduceEqDiff, Nat.reduceMul, Int.reduceToNat, Int.reduceEq, Int.reduceLT, Int.reduceLE, Int.reduceAdd, Int.reduceSub, Int.reduceMul, reduceCtorEq, cond_true, cond_false, forall_eq', forall_eq, forall_const, implies_true, if_true, if_false, exists_eq_left', exists_eq', exists_eq, ne_eq, Tryd.f14, tb14_35, spEqV_q, spEqV_A, spEqV_pre, spEqV_post, spEqPs5_q, spEqPs5_A, spEqPs5_pre, spEqPs5_post, hlt, hk])) | (have hlt2 := of_eq_false hlt; (first | simp (config := { maxSteps := 1000000 }) only [go_sem, ↓ifP_true, ↓ifP_false, ↓ifP_not, Nat.reduceLT, Nat.reduceAdd, Nat.reduceBEq, Nat.reduceSub, Nat.reduceLeDiff, Nat.reduceEqDiff, Nat.reduceMul, Int.reduceToNat, Int.reduceEq, Int.reduceLT, Int.reduceLE, Int.reduceAdd, Int.reduceSub, Int.reduceMul, reduceCtorEq, cond_true, cond_false, forall_eq', forall_eq, forall_const, implies_true, if_true, if_false, exists_eq_left', exists_eq', exists_eq, ne_eq, Tryd.f14, tb14_35, spEqV_q, spEqV_A, spEqV_pre, spEqV_post, spEqPs5_q, spEqPs5_A, spEqPs5_pre, spEqPs5_post, hlt, hy] | simp (config := { maxSteps := 1000000 }) only [go_sem, ↓ifP_true, ↓ifP_false, ↓ifP_not, Nat.reduceLT, Nat.reduceAdd, Nat.reduceBEq, Nat.reduceSub, Nat.reduceLeDiff, Nat.reduceEqDiff, Nat.reduceMul, Int.reduceToNat, Int.reduceEq, Int.reduceLT, Int.reduceLE, Int.reduceAdd, Int.reduceSub, Int.reduceMul, reduceCtorEq, cond_true, cond_false, forall_eq', forall_eq, forall_const, implies_true, if_true, if_false, exists_eq_left', exists_eq', exists_eq, ne_eq, Tryd.f14, tb14_35, spEqV_q, spEqV_A, spEqV_pre, spEqV_post, spEqPs5_q, spEqPs5_A, spEqPs5_pre, spEqPs5_post, hlt])))
    all_goals
      repeat' (first | apply And.intro | (intro _) | omega | assumption | with_reducible rfl)
  
  all_goals (first | (exact eqL5_step hk hy (vb_eq5 ‹x.k = y.k› ‹x.ps = y.ps›) hinv.1 hinv.2.2; done) | (exact (decide_eq_false (eqL5_no hk hy fun e => ‹¬ x.ps = y.ps› (e ▸ rfl))).symm; done) | (exact (decide_eq_false (eqL5_no hk hy fun e => ‹¬ x.k = y.k› (e ▸ rfl))).symm; done) | (exact (decide_eq_true (eqL5_end ‹_› hlt2 hinv.2.2)).symm; done) | (exact (decide_eq_false (eqL5_len ‹_›)).symm; done) | (omega; done))
theorem sat_laws_equalPath : Sat Tryd.prog rt0 14 (wkIn spEqV) := sat_in (sat_out sat_laws_equalPath_0)
end Go.Proofs.YthphndhiacikaaaDoor
