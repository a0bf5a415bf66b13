/- Contracts of functions of the program vectorraster, each proved for all states that fit its description. No conditions. -/
import Derived.Test.YthphndhiacikaaaDoorPC
import Derived.Test.YthphndhiacikaaaDoorKK
import Derived.Test.YthphndhiacikaaaDoorPE
import Derived.Test.YthphndhiacikaaaDoorPI
set_option linter.unusedSimpArgs false
set_option linter.unusedVariables false
section
set_option maxRecDepth 100000
set_option linter.unusedSimpArgs false
set_option linter.unusedVariables false
namespace Go.Proofs.YthphndhiacikaaaDoor
open Go Go.VE
theorem opn_prev2 {p : List Verb} {i : Int} {v : Verb} (h0 : 0 ≤ i) (hi : ¬ i = 0) (h : p[(i - 1).toNat]? = some v) : opn p i = decide (v.k = 4) := opn_prev (by omega) h
def tb12 : Nat → Option VE.Spec := tabOf [(27, wkIn spIn), (28, wkIn spVPts)]
theorem tb12_27 : tb12 27 = some (wkIn spIn) := rfl
theorem tb12_28 : tb12 28 = some (wkIn spVPts) := rfl
theorem tb12_ok : TabOK Tryd.prog rt0 tb12 := (tabOf_cons (by kernel_rfl) sat_impl_in (tabOf_cons (by kernel_rfl) sat_impl_pointsValid tabOf_nil))
set_option maxHeartbeats 4000000 in
theorem sat_impl_ValidPath_0 : Sat Tryd.prog rt0 12 (wkOut spVPath) := by
  refine fn_sat hm ttok (tab := tb12) tb12_ok Tryd.func12 (c := Tryd.f12.body.getD .skip) (by kernel_rfl) (ts := [.tmp 2]) (by kernel_rfl) Tryd.ntmps12 (sq := fun _ => true) (by kernel_rfl) ?_
  intro args ins pk hpre0 hpk
  obtain ⟨rfl, hpre0⟩ := hpre0
  obtain ⟨p, rfl, hpre, hdec⟩ := famPre_ex hpre0
  clear hpre0 hdec
  try simp only [spVPath_pre] at hpre
  replace hpk : pk + 0 ≤ pickLimit := hpk
  refine ⟨Nat.le_of_ble_eq_true rfl, ?_⟩
  simp (config := { maxSteps := 1000000 }) only [go_sem, ↓ifP_true, ↓ifP_false, ↓ifP_not, Nat.reduceLT, Nat.reduceAdd, Nat.reduceBEq, Nat.reduceSub, Nat.reduceLeDiff, Nat.reduceEqDiff, Nat.reduceMul, Int.reduceToNat, Int.reduceEq, Int.reduceLT, Int.reduceLE, Int.reduceAdd, Int.reduceSub, Int.reduceMul, reduceCtorEq, cond_true, cond_false, forall_eq', forall_eq, forall_const, implies_true, if_true, if_false, exists_eq_left', exists_eq', exists_eq, ne_eq, Tryd.f12, tb12_27, tb12_28, spVPath_q, spVPath_A, spVPath_pre, spVPath_post, spIn_q, spIn_A, spIn_pre, spIn_post, spVPts_q, spVPts_A, spVPts_pre, spVPts_post]
  repeat' (first | apply And.intro | (intro _) | omega | assumption | with_reducible rfl)
  any_goals
    refine loopS (α := Int × Int) false [1, 2, 4, 5, 6, 7, 8, 11, 12, 13, 14, 15, 16, 17, 18, 19, 20, 21, 22, 23, 24, 25, 26, 27, 28, 29, 30, 31, 32, 33, 34, 35, 36, 37, 38, 39, 40, 41, 42, 43, 44, 45, 46, 47, 48, 49, 50, 51, 52, 53, 54, 55, 56, 57, 58, 59, 60, 61] (fun σ => []) (fun σ x => [(4, I x.1), (11, I x.2)]) (fun σ x => []) (fun (c, i) => 0) (fun σ => (gI (σ.get 4), gI (σ.get 11))) (fun σ τ => []) (fun (c, i) => 0 ≤ i ∧ i ≤ p.length ∧ vVerbs (opn p i) (p.drop i.toNat) = vVerbs true p ∧ c = nPts (p.take i.toNat)) (fun (c, i) => (p.length - i).toNat) ⟨by (simp (config := { maxSteps := 1000000 }) only [go_sem, ↓ifP_true, ↓ifP_false, ↓ifP_not, Nat.reduceLT, Nat.reduceAdd, Nat.reduceBEq, Nat.reduceSub, Nat.reduceLeDiff, Nat.reduceEqDiff, Nat.reduceMul, Int.reduceToNat, Int.reduceEq, Int.reduceLT, Int.reduceLE, Int.reduceAdd, Int.reduceSub, Int.reduceMul, reduceCtorEq, cond_true, cond_false, forall_eq', forall_eq, forall_const, implies_true, if_true, if_false, exists_eq_left', exists_eq', exists_eq, ne_eq, Tryd.f12, tb12_27, tb12_28, spVPath_q, spVPath_A, spVPath_pre, spVPath_post, spIn_q, spIn_A, spIn_pre, spIn_post, spVPts_q, spVPts_A, spVPts_pre, spVPts_post]; (repeat' (first | apply And.intro | (intro _) | omega | assumption | with_reducible rfl)); all_goals (first | rfl)), ?_⟩
    rintro ⟨c, i⟩ hinv
    try dsimp only at hinv
    rcases elemAt p i (by omega) with ⟨hlt, v, hk⟩ | hlt
    all_goals (first | ((have hlt2 := of_eq_true hlt); (have hlt2 : i < p.length := of_eq_true hlt); (have hT := nPts_mem hk); (have hS := nPts_step hk hinv.1); (have hV := vv_step hk hinv.1); (obtain ⟨k, ps⟩ := v); (dsimp only at hT hS); (rcases kind4 k with rfl | rfl | rfl | rfl | rfl | ⟨h0, h1, h2, h3, h4⟩); all_goals (first | simp (config := { maxSteps := 1000000 }) only [go_sem, ↓ifP_true, ↓ifP_false, ↓ifP_not, Nat.reduceLT, Nat.reduceAdd, Nat.reduceBEq, Nat.reduceSub, Nat.reduceLeDiff, Nat.reduceEqDiff, Nat.reduceMul, Int.reduceToNat, Int.reduceEq, Int.reduceLT, Int.reduceLE, Int.reduceAdd, Int.reduceSub, Int.reduceMul, reduceCtorEq, cond_true, cond_false, forall_eq', forall_eq, forall_const, implies_true, if_true, if_false, exists_eq_left', exists_eq', exists_eq, ne_eq, Tryd.f12, tb12_27, tb12_28, spVPath_q, spVPath_A, spVPath_pre, spVPath_post, spIn_q, spIn_A, spIn_pre, spIn_post, spVPts_q, spVPts_A, spVPts_pre, spVPts_post, hlt, hk, h0, h1, h2, h3, h4] | simp (config := { maxSteps := 1000000 }) only [go_sem, ↓ifP_true, ↓ifP_false, ↓ifP_not, Nat.reduceLT, Nat.reduceAdd, Nat.reduceBEq, Nat.reduceSub, Nat.reduceLeDiff, Nat.reduceEqDiff, Nat.reduceMul, Int.reduceToNat, Int.reduceEq, Int.reduceLT, Int.reduceLE, Int.reduceAdd, Int.reduceSub, Int.reduceMul, reduceCtorEq, cond_true, cond_false, forall_eq', forall_eq, forall_const, implies_true, if_true, if_false, exists_eq_left', exists_eq', exists_eq, ne_eq, Tryd.f12, tb12_27, tb12_28, spVPath_q, spVPath_A, spVPath_pre, spVPath_post, spIn_q, spIn_A, spIn_pre, spIn_post, spVPts_q, spVPts_A, spVPts_pre, spVPts_post, hlt, hk])) | (have hlt2 := of_eq_false hlt; (first | simp (config := { maxSteps := 1000000 }) only [go_sem, ↓ifP_true, ↓ifP_false, ↓ifP_not, Nat.reduceLT, Nat.reduceAdd, Nat.reduceBEq, Nat.reduceSub, Nat.reduceLeDiff, Nat.reduceEqDiff, Nat.reduceMul, Int.reduceToNat, Int.reduceEq, Int.reduceLT, Int.reduceLE, Int.reduceAdd, Int.reduceSub, Int.reduceMul, reduceCtorEq, cond_true, cond_false, forall_eq', forall_eq, forall_const, implies_true, if_true, if_false, exists_eq_left', exists_eq', exists_eq, ne_eq, Tryd.f12, tb12_27, tb12_28, spVPath_q, spVPath_A, spVPath_pre, spVPath_post, spIn_q, spIn_A, spIn_pre, spIn_post, spVPts_q, spVPts_A, spVPts_pre, spVPts_post, hlt, h0, h1, h2, h3, h4] | simp (config := { maxSteps := 1000000 }) only [go_sem, ↓ifP_true, ↓ifP_false, ↓ifP_not, Nat.reduceLT, Nat.reduceAdd, Nat.reduceBEq, Nat.reduceSub, Nat.reduceLeDiff, Nat.reduceEqDiff, Nat.reduceMul, Int.reduceToNat, Int.reduceEq, Int.reduceLT, Int.reduceLE, Int.reduceAdd, Int.reduceSub, Int.reduceMul, reduceCtorEq, cond_true, cond_false, forall_eq', forall_eq, forall_const, implies_true, if_true, if_false, exists_eq_left', exists_eq', exists_eq, ne_eq, Tryd.f12, tb12_27, tb12_28, spVPath_q, spVPath_A, spVPath_pre, spVPath_post, spIn_q, spIn_A, spIn_pre, spIn_post, spVPts_q, spVPts_A, spVPts_pre, spVPts_post, hlt])))
    all_goals
      repeat' (first | apply And.intro | (intro _) | omega | assumption | with_reducible rfl)
  
  all_goals (first | ((exfalso; have e0 := of_eq_false h0; have e1 := of_eq_false h1; have e2 := of_eq_false h2; have e3 := of_eq_false h3; have e4 := of_eq_false h4; omega); done) | (exact (vv_bad hk hinv.1 hinv.2.2.1 (vVerb4 ‹_›)).symm; done) | (exact (vv_bad hk hinv.1 hinv.2.2.1 (vVerb_len (by simpa [many] using ‹¬ _›))).symm; done) | (exact (vv_bad hk hinv.1 hinv.2.2.1 (vVerb_kind (by have e0 := of_eq_false h0; have e1 := of_eq_false h1; have e2 := of_eq_false h2; have e3 := of_eq_false h3; have e4 := of_eq_false h4; dsimp only; omega))).symm; done) | ((rw [vPath_end (of_eq_false hlt) hinv]; simp [*]); done) | ((rw [← hinv.2.2.1, hV, opn_prev2 hinv.1 ‹¬ i = 0› ‹p[(i - 1).toNat]? = some _›]; simp [vVerb, many, *]); done) | (exact (vv_bad hk hinv.1 hinv.2.2.1 (by rw [opn_prev2 hinv.1 ‹¬ i = 0› ‹p[(i - 1).toNat]? = some _›]; simp [vVerb, many, *])).symm; done) | ((rw [← hinv.2.2.1, hV]; simp [vVerb, many, opn, *]); done) | (exact vv_bad hk hinv.1 hinv.2.2.1 (by simp [vVerb, many, opn, *]); done) | (exact (vv_bad hk hinv.1 hinv.2.2.1 (by simp [vVerb, many, opn, *])).symm; done) | ((have hge : (p.length : Int) ≤ i := by have := of_eq_false hlt; omega; simp_all [vPath, vv_end]); done) | (simp_all; done))
theorem sat_impl_ValidPath : Sat Tryd.prog rt0 12 (wkIn spVPath) := sat_in (sat_out sat_impl_ValidPath_0)
end Go.Proofs.YthphndhiacikaaaDoor
end
section
set_option maxRecDepth 100000
set_option linter.unusedSimpArgs false
set_option linter.unusedVariables false
namespace Go.Proofs.YthphndhiacikaaaDoor
open Go Go.VE
theorem rings_move {p : List Verb} {i : Int} {ps : List Pt} (hk : p[i.toNat]? = some ⟨0, ps⟩) (h0 : 0 ≤ i) (hl : ps.length = 1) : ringsOf (p.take (i + 1).toNat) = ringsOf (p.take i.toNat) ++ [ps] := by
  have e : [ps.headD default] = ps := by
    match ps, hl with
    | [a], _ => rfl
  unfold ringsOf
  rw [ringFold_step hk h0]
  generalize ringFold (p.take i.toNat) = s
  simp only [ringStep, if_true, e]
  rw [if_neg (by intro h; rw [h] at hl; cases hl)]
theorem rings_same {p : List Verb} {i : Int} {ps : List Pt} (hk : p[i.toNat]? = some ⟨4, ps⟩) (h0 : 0 ≤ i) : ringsOf (p.take (i + 1).toNat) = ringsOf (p.take i.toNat) := by
  unfold ringsOf
  rw [ringFold_step hk h0]
  rfl
theorem rings_line {p : List Verb} {i k : Int} {ps : List Pt} (h : vPath p = true) (hk : p[i.toNat]? = some ⟨k, ps⟩) (h0 : 0 ≤ i) (k1 : 1 ≤ k) (k3 : k ≤ 3) :
    ∃ A m, ringsOf (p.take i.toNat) = A ++ [m] ∧ okL m ∧ 1 ≤ m.length ∧ m.length ≤ 250 ∧ A.length ≤ 30 ∧ ringsOf (p.take (i + 1).toNat) = A ++ [m ++ flatP 3 (m.getLastD default :: ps)] := by
  have hp := ring_pos h hk h0 (by show k ≠ 0; omega)
  have hl := (List.getElem?_eq_some_iff.1 hk).1
  have hr := ringInv_at h i.toNat (by omega)
  have h30 := vPath_len h
  have hlen := hr.len
  have hnum := hr.num
  refine ⟨(ringFold (p.take i.toNat)).1, (ringFold (p.take i.toNat)).2, ?_, hr.ok, hp, by omega, by omega, ?_⟩
  · unfold ringsOf
    rw [if_neg (ring_len1 hp)]
  · have hs : ringStep (ringFold (p.take i.toNat)) ⟨k, ps⟩ = ((ringFold (p.take i.toNat)).1, (ringFold (p.take i.toNat)).2 ++ flatP 3 ((ringFold (p.take i.toNat)).2.getLastD default :: ps)) := by
      unfold ringStep
      rw [if_neg (by dsimp only; omega), if_neg (by dsimp only; omega)]
    unfold ringsOf
    rw [ringFold_step hk h0, hs]
    rw [if_neg (by intro hh; have := congrArg List.length hh; simp only [List.length_append, List.length_nil] at this; omega)]
theorem last_get {α : Type} (A : List α) (m : α) : (A ++ [m])[(((A ++ [m]).length : Int) - 1).toNat]? = some m := by
  rw [List.length_append, List.length_singleton, show (((A.length + 1 : Nat) : Int) - 1).toNat = A.length by omega, List.getElem?_append_right (Nat.le_refl _)]
  simp
theorem last_set {α : Type} (A : List α) (m x : α) : (A ++ [m]).set (((A ++ [m]).length : Int) - 1).toNat x = A ++ [x] := by
  rw [List.length_append, List.length_singleton, show (((A.length + 1 : Nat) : Int) - 1).toNat = A.length by omega, List.set_append_right _ _ (Nat.le_refl _)]
  simp
end Go.Proofs.YthphndhiacikaaaDoor
end
section
set_option maxRecDepth 100000
set_option linter.unusedSimpArgs false
set_option linter.unusedVariables false
namespace Go.Proofs.YthphndhiacikaaaDoor
open Go Go.VE
def spClone0_A : (List Pt) → List AV
  | l => [.c (.sl false (l.map ptC))]
def spClone0_pre : (List Pt) → Prop
  | l => l.length ≤ 1000000000
def spClone0_post : (List Pt) → AV → List Box → Prop
  | l, r, bs => r = .c (.own 0 (l).length false) ∧ bs = [⟨(l).map ptC, 2, 47, true, false⟩]
def spClone0 : VE.Spec := famSpec spClone0_A d_lpt spClone0_pre spClone0_post 0 false
theorem spClone0_q : spClone0.flat = false ∧ spClone0.mt = [] ∧ spClone0.shut = false ∧ spClone0.cost = 0 ∧ (∀ a i, spClone0.pre a i = (i = [] ∧ famPre d_lpt spClone0_A spClone0_pre a)) ∧ ∀ a i r b, spClone0.post a i r b = (famPost d_lpt spClone0_post a r b) := ⟨rfl, rfl, rfl, rfl, fun _ _ => rfl, fun _ _ _ _ => rfl⟩
def spClipT_A : List Pt → List AV := fun l => [.c (.own 0 l.length false)]
def spClipT_B : List Pt → List Box := fun l => [⟨l.map ptC, 2, 47, true, false⟩]
def spClipT_d : List AV → List Box → Option (List Pt)
  | [.c (.own 0 _ false)], [⟨es, _, _, _, _⟩] => decAll ptCd es
  | _, _ => none
def spClipT_pre : List Pt → Prop := fun l => l.length ≤ 1000000000
def spClipT_post : List Pt → AV → List Box → Prop := fun l r bs => r = .c (.own 0 (l).length true) ∧ bs = [⟨(l).map ptC, 2, 47, true, false⟩]
def spClipT : VE.Spec := famSpecM spClipT_A spClipT_B spClipT_d spClipT_pre spClipT_post 0 false [true] false
theorem spClipT_q : spClipT.flat = false ∧ spClipT.mt = [true] ∧ spClipT.shut = false ∧ spClipT.cost = 0 ∧ (∀ a i, spClipT.pre a i = (famPreM spClipT_d spClipT_A spClipT_B spClipT_pre a i)) ∧ ∀ a i r b, spClipT.post a i r b = (famPostM spClipT_d spClipT_post a i r b) := ⟨rfl, rfl, rfl, rfl, fun _ _ => rfl, fun _ _ _ _ => rfl⟩
def spCloneT_A : (List Pt) → List AV
  | l => [.c (.sl false (l.map ptC))]
def spCloneT_pre : (List Pt) → Prop
  | l => l.length ≤ 1000000000
def spCloneT_post : (List Pt) → AV → List Box → Prop
  | l, r, bs => r = .c (.own 0 (l).length true) ∧ bs = [⟨(l).map ptC, 2, 47, true, false⟩]
def spCloneT : VE.Spec := famSpec spCloneT_A d_lpt spCloneT_pre spCloneT_post 0 false
theorem spCloneT_q : spCloneT.flat = false ∧ spCloneT.mt = [] ∧ spCloneT.shut = false ∧ spCloneT.cost = 0 ∧ (∀ a i, spCloneT.pre a i = (i = [] ∧ famPre d_lpt spCloneT_A spCloneT_pre a)) ∧ ∀ a i r b, spCloneT.post a i r b = (famPost d_lpt spCloneT_post a r b) := ⟨rfl, rfl, rfl, rfl, fun _ _ => rfl, fun _ _ _ _ => rfl⟩
def tbT63 : Nat → Option VE.Spec := tabOf []
theorem tbT63_ok : TabOK Tryd.prog rt0 tbT63 := tabOf_nil
set_option maxHeartbeats 4000000 in
theorem satT_slices_Clone_impl_Point_impl_Point_0 : Sat Tryd.prog rt0 63 (wkOut spClone0) := by
  refine fn_sat hm ttok (tab := tbT63) tbT63_ok Tryd.func63 (c := Tryd.f63.body.getD .skip) (by kernel_rfl) (ts := [.tmp 2]) (by kernel_rfl) Tryd.ntmps63 (sq := fun _ => true) (by kernel_rfl) ?_
  intro args ins pk hpre0 hpk
  obtain ⟨rfl, hpre0⟩ := hpre0
  obtain ⟨l, rfl, hpre, hdec⟩ := famPre_ex hpre0
  clear hpre0 hdec
  try simp only [spClone0_pre] at hpre
  replace hpk : pk + 0 ≤ pickLimit := hpk
  refine ⟨Nat.le_of_ble_eq_true rfl, ?_⟩
  simp (config := { maxSteps := 1000000 }) only [go_sem, ↓ifP_true, ↓ifP_false, ↓ifP_not, Nat.reduceLT, Nat.reduceAdd, Nat.reduceBEq, Nat.reduceSub, Nat.reduceLeDiff, Nat.reduceEqDiff, Nat.reduceMul, Int.reduceToNat, Int.reduceEq, Int.reduceLT, Int.reduceLE, Int.reduceAdd, Int.reduceSub, Int.reduceMul, reduceCtorEq, cond_true, cond_false, forall_eq', forall_eq, forall_const, implies_true, if_true, if_false, exists_eq_left', exists_eq', exists_eq, ne_eq, Tryd.f63, spClone0_q, spClone0_A, spClone0_pre, spClone0_post]
  repeat' (first | apply And.intro | (intro _) | omega | assumption | with_reducible rfl)
  all_goals (first | ((obtain rfl := nil_of (l := l) ‹_› ‹_›; rfl); done))
theorem satT_slices_Clone_impl_Point_impl_Point : Sat Tryd.prog rt0 63 (wkIn spClone0) := sat_in (sat_out satT_slices_Clone_impl_Point_impl_Point_0)
def tbT62 : Nat → Option VE.Spec := tabOf []
theorem tbT62_ok : TabOK Tryd.prog rt0 tbT62 := tabOf_nil
set_option maxHeartbeats 4000000 in
theorem satT_slices_Clip_impl_Point_impl_Point_0 : Sat Tryd.prog rt0 62 spClipT := by
  refine fn_sat hm ttok (tab := tbT62) tbT62_ok Tryd.func62 (c := Tryd.f62.body.getD .skip) (by kernel_rfl) (ts := [.tmp 2]) (by kernel_rfl) Tryd.ntmps62 (sq := fun _ => true) (by kernel_rfl) ?_
  intro args ins pk hpre0 hpk
  obtain ⟨l, rfl, rfl, hpre, hdec⟩ := famPreM_ex hpre0
  clear hpre0 hdec
  try simp only [spClipT_pre] at hpre
  replace hpk : pk + 0 ≤ pickLimit := hpk
  refine ⟨Nat.le_of_ble_eq_true rfl, ?_⟩
  simp (config := { maxSteps := 1000000 }) only [go_sem, ↓ifP_true, ↓ifP_false, ↓ifP_not, Nat.reduceLT, Nat.reduceAdd, Nat.reduceBEq, Nat.reduceSub, Nat.reduceLeDiff, Nat.reduceEqDiff, Nat.reduceMul, Int.reduceToNat, Int.reduceEq, Int.reduceLT, Int.reduceLE, Int.reduceAdd, Int.reduceSub, Int.reduceMul, reduceCtorEq, cond_true, cond_false, forall_eq', forall_eq, forall_const, implies_true, if_true, if_false, exists_eq_left', exists_eq', exists_eq, ne_eq, Tryd.f62, spClipT_q, spClipT_A, spClipT_B, spClipT_d, spClipT_pre, spClipT_post]
  repeat' (first | apply And.intro | (intro _) | omega | assumption | with_reducible rfl)
  all_goals (first | (omega; done))
theorem satT_slices_Clip_impl_Point_impl_Point : Sat Tryd.prog rt0 62 (wkIn spClipT) := sat_in satT_slices_Clip_impl_Point_impl_Point_0
def tbT33 : Nat → Option VE.Spec := tabOf [(63, wkIn spClone0), (62, wkIn spClipT)]
theorem tbT33_63 : tbT33 63 = some (wkIn spClone0) := rfl
theorem tbT33_62 : tbT33 62 = some (wkIn spClipT) := rfl
theorem tbT33_ok : TabOK Tryd.prog rt0 tbT33 := (tabOf_cons (by kernel_rfl) satT_slices_Clone_impl_Point_impl_Point (tabOf_cons (by kernel_rfl) satT_slices_Clip_impl_Point_impl_Point tabOf_nil))
set_option maxHeartbeats 4000000 in
theorem satT_impl_clone_impl_Point_0 : Sat Tryd.prog rt0 33 spCloneT := by
  refine fn_sat hm ttok (tab := tbT33) tbT33_ok Tryd.func33 (c := Tryd.f33.body.getD .skip) (by kernel_rfl) (ts := [.tmp 2]) (by kernel_rfl) Tryd.ntmps33 (sq := fun _ => true) (by kernel_rfl) ?_
  intro args ins pk hpre0 hpk
  obtain ⟨rfl, hpre0⟩ := hpre0
  obtain ⟨l, rfl, hpre, hdec⟩ := famPre_ex hpre0
  clear hpre0 hdec
  try simp only [spCloneT_pre] at hpre
  replace hpk : pk + 0 ≤ pickLimit := hpk
  refine ⟨Nat.le_of_ble_eq_true rfl, ?_⟩
  simp (config := { maxSteps := 1000000 }) only [go_sem, ↓ifP_true, ↓ifP_false, ↓ifP_not, Nat.reduceLT, Nat.reduceAdd, Nat.reduceBEq, Nat.reduceSub, Nat.reduceLeDiff, Nat.reduceEqDiff, Nat.reduceMul, Int.reduceToNat, Int.reduceEq, Int.reduceLT, Int.reduceLE, Int.reduceAdd, Int.reduceSub, Int.reduceMul, reduceCtorEq, cond_true, cond_false, forall_eq', forall_eq, forall_const, implies_true, if_true, if_false, exists_eq_left', exists_eq', exists_eq, ne_eq, Tryd.f33, tbT33_63, tbT33_62, spCloneT_q, spCloneT_A, spCloneT_pre, spCloneT_post, spClone0_q, spClone0_A, spClone0_pre, spClone0_post, spClipT_q, spClipT_A, spClipT_B, spClipT_d, spClipT_pre, spClipT_post]
  repeat' (first | apply And.intro | (intro _) | omega | assumption | with_reducible rfl)
  all_goals (first | (omega; done))
theorem satT_impl_clone_impl_Point : Sat Tryd.prog rt0 33 (wkIn spCloneT) := sat_in satT_impl_clone_impl_Point_0
end Go.Proofs.YthphndhiacikaaaDoor
end
