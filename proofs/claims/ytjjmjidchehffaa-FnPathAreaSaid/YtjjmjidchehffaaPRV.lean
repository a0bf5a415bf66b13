/- Contracts of functions of the program vectorraster, each proved for all states that fit its description. No conditions. -/
import Derived.Test.YtjjmjidchehffaaKK
import Derived.Test.YtjjmjidchehffaaEH
import Derived.Test.YtjjmjidchehffaaPO
import Derived.Test.YtjjmjidchehffaaPH
import Derived.Test.YtjjmjidchehffaaPC
import Derived.Test.YtjjmjidchehffaaPF
import Derived.Test.YtjjmjidchehffaaPJ
import Derived.Test.YtjjmjidchehffaaPP
set_option linter.unusedSimpArgs false
set_option linter.unusedVariables false
section
set_option maxRecDepth 100000
set_option linter.unusedSimpArgs false
set_option linter.unusedVariables false
namespace Go.Proofs.Ytjjmjidchehffaa
open Go Go.VE
set_option maxHeartbeats 4000000 in
theorem iter_113 : IterOK Try.prog 113 true 2 := by
  refine iter_of (rt := rt0) (tab := tabOf []) ttok tabOf_nil Try.func113 (by kernel_rfl) (r0 := 0) (r1 := 1) (r2 := 2) (r3 := 3) (b0 := 0) (b1 := 1) (L0 := (rOps (Try.f113.body.getD .skip) 0)) (L1 := (rOps (Try.f113.body.getD .skip) 1)) (L2 := (rOps (Try.f113.body.getD .skip) 2)) (L3 := (rOps (Try.f113.body.getD .skip) 3)) (A0 := (rOps (Try.f113.body.getD .skip) 0).take 3) (A2 := (rOps (Try.f113.body.getD .skip) 2).take 2) (A3 := (rOps (Try.f113.body.getD .skip) 3).take 6)
    (o0 := (rOps (Try.f113.body.getD .skip) 0).getD 3 default) (o2 := (rOps (Try.f113.body.getD .skip) 2).getD 2 default) (oy := (rOps (Try.f113.body.getD .skip) 3).getD 6 default) (on := (rOps (Try.f113.body.getD .skip) 3).getD 7 default) (by kernel_rfl) (by kernel_rfl) Try.ntmps113 (by kernel_rfl) (by kernel_rfl) (by kernel_rfl) (by kernel_rfl) ⟨by kernel_rfl, by kernel_rfl, by kernel_rfl⟩ ⟨by kernel_rfl, by kernel_rfl, by kernel_rfl⟩ ⟨by kernel_rfl, by kernel_rfl, #[3, 38], by kernel_rfl⟩ ?_ ?_ ?_ ?_ ?_
  · intro Y t es hl
    unfold maxLen at hl
    simp (config := { maxSteps := 1000000 }) only [go_sem, ↓ifP_true, ↓ifP_false, ↓ifP_not, Nat.reduceLT, Nat.reduceAdd, Nat.reduceBEq, Nat.reduceSub, Nat.reduceLeDiff, Nat.reduceEqDiff, Nat.reduceMul, Int.reduceToNat, Int.reduceEq, Int.reduceLT, Int.reduceLE, Int.reduceAdd, Int.reduceSub, Int.reduceMul, reduceCtorEq, cond_true, cond_false, forall_eq', forall_eq, forall_const, implies_true, if_true, if_false, exists_eq_left', exists_eq', exists_eq, ne_eq, Try.f113, rOps, itSt, itS0, itB, List.take_succ_cons, List.take_zero, Option.getD_some, cond_true, cond_false, List.append_nil, List.nil_append, List.drop_succ_cons, List.drop_zero, List.getD_cons_succ, List.getD_cons_zero, List.append_assoc, List.cons_append]
    all_goals (repeat' (first | apply And.intro | (intro _) | omega | assumption | with_reducible rfl))
    all_goals skip
  · intro Y t es k
    skip
    simp (config := { maxSteps := 1000000 }) only [go_sem, ↓ifP_true, ↓ifP_false, ↓ifP_not, Nat.reduceLT, Nat.reduceAdd, Nat.reduceBEq, Nat.reduceSub, Nat.reduceLeDiff, Nat.reduceEqDiff, Nat.reduceMul, Int.reduceToNat, Int.reduceEq, Int.reduceLT, Int.reduceLE, Int.reduceAdd, Int.reduceSub, Int.reduceMul, reduceCtorEq, cond_true, cond_false, forall_eq', forall_eq, forall_const, implies_true, if_true, if_false, exists_eq_left', exists_eq', exists_eq, ne_eq, Try.f113, rOps, itSt, itS0, itB, List.take_succ_cons, List.take_zero, Option.getD_some, cond_true, cond_false, List.append_nil, List.nil_append, List.drop_succ_cons, List.drop_zero, List.getD_cons_succ, List.getD_cons_zero, List.append_assoc, List.cons_append]
    all_goals (repeat' (first | apply And.intro | (intro _) | omega | assumption | with_reducible rfl))
    all_goals skip
  · intro k b h0 h1
    unfold maxLen at h1
    simp (config := { maxSteps := 1000000 }) only [go_sem, ↓ifP_true, ↓ifP_false, ↓ifP_not, Nat.reduceLT, Nat.reduceAdd, Nat.reduceBEq, Nat.reduceSub, Nat.reduceLeDiff, Nat.reduceEqDiff, Nat.reduceMul, Int.reduceToNat, Int.reduceEq, Int.reduceLT, Int.reduceLE, Int.reduceAdd, Int.reduceSub, Int.reduceMul, reduceCtorEq, cond_true, cond_false, forall_eq', forall_eq, forall_const, implies_true, if_true, if_false, exists_eq_left', exists_eq', exists_eq, ne_eq, Try.f113, rOps, itSt, itS0, itB, List.take_succ_cons, List.take_zero, Option.getD_some, cond_true, cond_false, List.append_nil, List.nil_append, List.drop_succ_cons, List.drop_zero, List.getD_cons_succ, List.getD_cons_zero, List.append_assoc, List.cons_append]
    all_goals (repeat' (first | apply And.intro | (intro _) | omega | assumption | with_reducible rfl))
    all_goals skip
  · intro Y t es k e hk hl
    (have hkl := (List.getElem?_eq_some_iff.1 hk).1; have hke := hl e (List.mem_of_getElem? hk))
    simp (config := { maxSteps := 1000000 }) only [go_sem, ↓ifP_true, ↓ifP_false, ↓ifP_not, Nat.reduceLT, Nat.reduceAdd, Nat.reduceBEq, Nat.reduceSub, Nat.reduceLeDiff, Nat.reduceEqDiff, Nat.reduceMul, Int.reduceToNat, Int.reduceEq, Int.reduceLT, Int.reduceLE, Int.reduceAdd, Int.reduceSub, Int.reduceMul, reduceCtorEq, cond_true, cond_false, forall_eq', forall_eq, forall_const, implies_true, if_true, if_false, exists_eq_left', exists_eq', exists_eq, ne_eq, Try.f113, rOps, itSt, itS0, itB, List.take_succ_cons, List.take_zero, Option.getD_some, cond_true, cond_false, List.append_nil, List.nil_append, List.drop_succ_cons, List.drop_zero, List.getD_cons_succ, List.getD_cons_zero, List.append_assoc, List.cons_append]
    all_goals (repeat' (first | apply And.intro | (intro _) | omega | assumption | with_reducible rfl))
    all_goals (first | omega | exact hl _ (by assumption) | (rename_i h9; have h8 := Option.some.inj (hk.symm.trans h9); subst h8; first | omega | exact List.take_of_length_le (by omega)))
  · intro k b
    skip
    simp (config := { maxSteps := 1000000 }) only [go_sem, ↓ifP_true, ↓ifP_false, ↓ifP_not, Nat.reduceLT, Nat.reduceAdd, Nat.reduceBEq, Nat.reduceSub, Nat.reduceLeDiff, Nat.reduceEqDiff, Nat.reduceMul, Int.reduceToNat, Int.reduceEq, Int.reduceLT, Int.reduceLE, Int.reduceAdd, Int.reduceSub, Int.reduceMul, reduceCtorEq, cond_true, cond_false, forall_eq', forall_eq, forall_const, implies_true, if_true, if_false, exists_eq_left', exists_eq', exists_eq, ne_eq, Try.f113, rOps, itSt, itS0, itB, List.take_succ_cons, List.take_zero, Option.getD_some, cond_true, cond_false, List.append_nil, List.nil_append, List.drop_succ_cons, List.drop_zero, List.getD_cons_succ, List.getD_cons_zero, List.append_assoc, List.cons_append]
    all_goals (repeat' (first | apply And.intro | (intro _) | omega | assumption | with_reducible rfl))
    all_goals skip
def spBkP_A : (List Pt) → List AV
  | l => [.c (.sl false (l.map ptC))]
def spBkP_pre : (List Pt) → Prop
  | l => l.length ≤ 1000000
def spBkP_post : (List Pt) → AV → List Box → Prop
  | l, r, bs => r = .c (.fn 113 [.rp [.sl false (l.map ptC)]]) ∧ bs = []
def spBkP : VE.Spec := famSpecS spBkP_A d_lpt spBkP_pre spBkP_post 0 false
theorem spBkP_q : spBkP.flat = false ∧ spBkP.mt = [] ∧ spBkP.shut = true ∧ spBkP.cost = 0 ∧ (∀ a i, spBkP.pre a i = (i = [] ∧ famPre d_lpt spBkP_A spBkP_pre a)) ∧ ∀ a i r b, spBkP.post a i r b = (famPost d_lpt spBkP_post a r b) := ⟨rfl, rfl, rfl, rfl, fun _ _ => rfl, fun _ _ _ _ => rfl⟩
def tb85 : Nat → Option VE.Spec := tabOf []
theorem tb85_ok : TabOK Try.prog rt0 tb85 := tabOf_nil
set_option maxHeartbeats 4000000 in
theorem sat_slices_Backward_impl_Point_impl_Point_0 : Sat Try.prog rt0 85 (wkOut spBkP) := by
  refine fn_sat hm ttok (tab := tb85) tb85_ok Try.func85 (c := Try.f85.body.getD .skip) (by kernel_rfl) (ts := [.tmp 2]) (by kernel_rfl) Try.ntmps85 (sq := fun _ => true) (by kernel_rfl) ?_
  intro args ins pk hpre0 hpk
  obtain ⟨rfl, hpre0⟩ := hpre0
  obtain ⟨l, rfl, hpre, hdec⟩ := famPre_ex hpre0
  clear hpre0 hdec
  try simp only [spBkP_pre] at hpre
  replace hpk : pk + 0 ≤ pickLimit := hpk
  refine ⟨Nat.le_of_ble_eq_true rfl, ?_⟩
  simp (config := { maxSteps := 1000000 }) only [go_sem, ↓ifP_true, ↓ifP_false, ↓ifP_not, Nat.reduceLT, Nat.reduceAdd, Nat.reduceBEq, Nat.reduceSub, Nat.reduceLeDiff, Nat.reduceEqDiff, Nat.reduceMul, Int.reduceToNat, Int.reduceEq, Int.reduceLT, Int.reduceLE, Int.reduceAdd, Int.reduceSub, Int.reduceMul, reduceCtorEq, cond_true, cond_false, forall_eq', forall_eq, forall_const, implies_true, if_true, if_false, exists_eq_left', exists_eq', exists_eq, ne_eq, Try.f85, spBkP_q, spBkP_A, spBkP_pre, spBkP_post]
  repeat' (first | apply And.intro | (intro _) | omega | assumption | with_reducible rfl)
  all_goals (first | ((simp_all; done); done))
theorem sat_slices_Backward_impl_Point_impl_Point : Sat Try.prog rt0 85 (wkIn spBkP) := sat_in (sat_out sat_slices_Backward_impl_Point_impl_Point_0)
def spClipV_A : List Verb → List AV := fun l => [.c (.own 0 l.length false)]
def spClipV_B : List Verb → List Box := fun l => [⟨l.map vbC, 2, 51, true, false⟩]
def spClipV_d : List AV → List Box → Option (List Verb)
  | [.c (.own 0 _ false)], [⟨es, _, _, _, _⟩] => decAll vbCd es
  | _, _ => none
def spClipV_pre : List Verb → Prop := fun l => l.length ≤ 1000000000
def spClipV_post : List Verb → AV → List Box → Prop := fun l r bs => r = .c (.own 0 (l).length false) ∧ bs = [⟨(l).map vbC, 2, 51, true, false⟩]
def spClipV : VE.Spec := famSpecM spClipV_A spClipV_B spClipV_d spClipV_pre spClipV_post 0 false [true] false
theorem spClipV_q : spClipV.flat = false ∧ spClipV.mt = [true] ∧ spClipV.shut = false ∧ spClipV.cost = 0 ∧ (∀ a i, spClipV.pre a i = (famPreM spClipV_d spClipV_A spClipV_B spClipV_pre a i)) ∧ ∀ a i r b, spClipV.post a i r b = (famPostM spClipV_d spClipV_post a i r b) := ⟨rfl, rfl, rfl, rfl, fun _ _ => rfl, fun _ _ _ _ => rfl⟩
def tb86 : Nat → Option VE.Spec := tabOf []
theorem tb86_ok : TabOK Try.prog rt0 tb86 := tabOf_nil
set_option maxHeartbeats 4000000 in
theorem sat_slices_Clip_impl_Verb_impl_Verb_0 : Sat Try.prog rt0 86 (wkOut spClipV) := by
  refine fn_sat hm ttok (tab := tb86) tb86_ok Try.func86 (c := Try.f86.body.getD .skip) (by kernel_rfl) (ts := [.tmp 2]) (by kernel_rfl) Try.ntmps86 (sq := fun _ => true) (by kernel_rfl) ?_
  intro args ins pk hpre0 hpk
  obtain ⟨l, rfl, rfl, hpre, hdec⟩ := famPreM_ex hpre0
  clear hpre0 hdec
  try simp only [spClipV_pre] at hpre
  replace hpk : pk + 0 ≤ pickLimit := hpk
  refine ⟨Nat.le_of_ble_eq_true rfl, ?_⟩
  simp (config := { maxSteps := 1000000 }) only [go_sem, ↓ifP_true, ↓ifP_false, ↓ifP_not, Nat.reduceLT, Nat.reduceAdd, Nat.reduceBEq, Nat.reduceSub, Nat.reduceLeDiff, Nat.reduceEqDiff, Nat.reduceMul, Int.reduceToNat, Int.reduceEq, Int.reduceLT, Int.reduceLE, Int.reduceAdd, Int.reduceSub, Int.reduceMul, reduceCtorEq, cond_true, cond_false, forall_eq', forall_eq, forall_const, implies_true, if_true, if_false, exists_eq_left', exists_eq', exists_eq, ne_eq, Try.f86, spClipV_q, spClipV_A, spClipV_B, spClipV_d, spClipV_pre, spClipV_post]
  repeat' (first | apply And.intro | (intro _) | omega | assumption | with_reducible rfl)
  all_goals (first | (omega; done))
theorem sat_slices_Clip_impl_Verb_impl_Verb : Sat Try.prog rt0 86 (wkIn spClipV) := sat_in (sat_out sat_slices_Clip_impl_Verb_impl_Verb_0)
end Go.Proofs.Ytjjmjidchehffaa
end
section
set_option maxRecDepth 100000
set_option linter.unusedSimpArgs false
set_option linter.unusedVariables false
namespace Go.Proofs.Ytjjmjidchehffaa
open Go Go.VE
def rvR (r : List Pt) : List Verb := r.reverse.mapIdx fun j q => (⟨if j = 0 then 0 else 1, [q]⟩ : Verb)
def rvP (L : List (List Pt)) : List Verb := L.flatMap fun r => rvR r ++ [(⟨4, []⟩ : Verb)]
theorem rvR_len (r : List Pt) : (rvR r).length = r.length := by simp [rvR]
theorem rvP_len (L : List (List Pt)) : (rvP L).length = total L + L.length := by
  induction L with
  | nil => rfl
  | cons r L ih =>
    have e : rvP (r :: L) = rvR r ++ [(⟨4, []⟩ : Verb)] ++ rvP L := by simp [rvP]
    rw [e, List.length_append, List.length_append, rvR_len, ih]
    simp only [total, List.map_cons, List.sum_cons, List.length_cons, List.length_singleton, List.length_nil]
    omega
theorem nPts_rvR (r : List Pt) : nPts (rvR r) = r.length := by
  have : ∀ v ∈ rvR r, v.ps.length = 1 := by
    intro v hv
    obtain ⟨j, hj⟩ := List.getElem?_of_mem hv
    rw [rvR, List.getElem?_mapIdx] at hj
    cases hq : r.reverse[j]? with
    | none => rw [hq] at hj; cases hj
    | some q => rw [hq] at hj; simp only [Option.map_some, Option.some.injEq] at hj; subst hj; rfl
  have key : ∀ l : List Verb, (∀ v ∈ l, v.ps.length = 1) → nPts l = l.length := by
    intro l
    induction l with
    | nil => intro _; rfl
    | cons v l ih =>
      intro h
      have h1 := h v (by simp)
      have h2 := ih fun w hw => h w (by simp [hw])
      simp only [nPts, List.map_cons, List.sum_cons, List.length_cons] at *
      omega
  rw [key _ this, rvR_len]
theorem rvP_pts (L : List (List Pt)) : nPts (rvP L) = total L := by
  induction L with
  | nil => rfl
  | cons r L ih =>
    have e : rvP (r :: L) = rvR r ++ [(⟨4, []⟩ : Verb)] ++ rvP L := by simp [rvP]
    rw [e, nPts_app, nPts_app, nPts_rvR, ih]
    simp [nPts, total]
theorem rvP_snoc (L : List (List Pt)) (r : List Pt) : rvP (L ++ [r]) = rvP L ++ rvR r ++ [(⟨4, []⟩ : Verb)] := by simp [rvP]
theorem rvR_at {r : List Pt} {k : Nat} {q : Pt} (h : r[k]? = some q) : (rvR r)[r.length - (k + 1)]? = some ⟨if (k : Int) = (r.length : Int) - 1 then 0 else 1, [q]⟩ := by
  have hl := (List.getElem?_eq_some_iff.1 h).1
  rw [rvR, List.getElem?_mapIdx, List.getElem?_reverse (by omega), show r.length - 1 - (r.length - (k + 1)) = k by omega, h]
  simp only [Option.map_some, Option.some.injEq, Verb.mk.injEq, and_true]
  by_cases e : (k : Int) = (r.length : Int) - 1
  · rw [if_pos e, if_pos (by omega)]
  · rw [if_neg e, if_neg (by omega)]
theorem rvR_step {r : List Pt} {k : Nat} {q : Pt} (h : r[k]? = some q) : (rvR r).take (r.length - k) = (rvR r).take (r.length - (k + 1)) ++ [(⟨if (k : Int) = (r.length : Int) - 1 then 0 else 1, [q]⟩ : Verb)] := by
  have hl := (List.getElem?_eq_some_iff.1 h).1
  rw [show r.length - k = r.length - (k + 1) + 1 by omega, List.take_add_one, rvR_at h]
  rfl
theorem rvR_all (r : List Pt) : (rvR r).take (r.length - 0) = rvR r := List.take_of_length_le (by rw [rvR_len]; omega)
theorem rvR_none (r : List Pt) : (rvR r).take (r.length - r.length) = [] := by simp
/-- The reversed path, and whether there is one. -/
def rvB (p : List Verb) : Bool := vPath p && vPath (rvP (ringsOf p))
def rvO (p : List Verb) : List Verb := if rvB p = true then rvP (ringsOf p) else []
theorem rvO_yes {p : List Verb} (h : vPath p = true) (h2 : vPath (rvP (ringsOf p)) = true) : rvB p = true ∧ rvO p = rvP (ringsOf p) := by
  have e : rvB p = true := by rw [rvB, h, h2]; rfl
  exact ⟨e, if_pos e⟩
theorem rvO_no1 {p : List Verb} (h : vPath p = false) : rvB p = false ∧ rvO p = [] := by
  have e : rvB p = false := by rw [rvB, h]; rfl
  exact ⟨e, if_neg (by rw [e]; decide)⟩
theorem rvO_no2 {p : List Verb} (h : vPath (rvP (ringsOf p)) = false) : rvB p = false ∧ rvO p = [] := by
  have e : rvB p = false := by rw [rvB, h, Bool.and_false]
  exact ⟨e, if_neg (by rw [e]; decide)⟩
def spRvP_A : (List Verb) → List AV
  | p => [.c (.sl false (p.map vbC))]
def spRvP_pre : (List Verb) → Prop
  | p => p.length ≤ 1000000 ∧ nPts p ≤ 1000000000
def spRvP_post : (List Verb) → AV → List Box → Prop
  | p, r, bs => r = .tup [.c (.sl false ((rvO p).map vbC)), B (rvB p)] ∧ bs = []
def spRvP : VE.Spec := famSpecS spRvP_A d_lvb spRvP_pre spRvP_post 0 false
theorem spRvP_q : spRvP.flat = false ∧ spRvP.mt = [] ∧ spRvP.shut = true ∧ spRvP.cost = 0 ∧ (∀ a i, spRvP.pre a i = (i = [] ∧ famPre d_lvb spRvP_A spRvP_pre a)) ∧ ∀ a i r b, spRvP.post a i r b = (famPost d_lvb spRvP_post a r b) := ⟨rfl, rfl, rfl, rfl, fun _ _ => rfl, fun _ _ _ _ => rfl⟩
end Go.Proofs.Ytjjmjidchehffaa
end
section
set_option maxRecDepth 100000
set_option linter.unusedSimpArgs false
set_option linter.unusedVariables false
namespace Go.Proofs.Ytjjmjidchehffaa
open Go Go.VE
def tb39 : Nat → Option VE.Spec := tabOf [(32, wkIn spVPath), (79, wkIn spRings), (85, wkIn spBkP), (86, wkIn spClipV)]
theorem tb39_32 : tb39 32 = some (wkIn spVPath) := rfl
theorem tb39_79 : tb39 79 = some (wkIn spRings) := rfl
theorem tb39_85 : tb39 85 = some (wkIn spBkP) := rfl
theorem tb39_86 : tb39 86 = some (wkIn spClipV) := rfl
theorem tb39_ok : TabOK Try.prog rt0 tb39 := (tabOf_cons (by kernel_rfl) sat_impl_ValidPath (tabOf_cons (by kernel_rfl) sat_impl_rings (tabOf_cons (by kernel_rfl) sat_slices_Backward_impl_Point_impl_Point (tabOf_cons (by kernel_rfl) sat_slices_Clip_impl_Verb_impl_Verb tabOf_nil))))
set_option maxHeartbeats 4000000 in
theorem sat_impl_ReversePath_0 : Sat Try.prog rt0 39 (wkOut spRvP) := by
  refine fn_satR hm ttok (tab := tb39) tb39_ok (it := itOne 113 true 2) (itOne_ok iter_113) Try.func39 (c := Try.f39.body.getD .skip) (by kernel_rfl) (ts := [.tmp 2, .tmp 3]) (by kernel_rfl) Try.ntmps39 (sq := fun _ => true) (by kernel_rfl) ?_
  intro args ins pk hpre0 hpk
  obtain ⟨rfl, hpre0⟩ := hpre0
  obtain ⟨p, rfl, hpre, hdec⟩ := famPre_ex hpre0
  clear hpre0 hdec
  try simp only [spRvP_pre] at hpre
  replace hpk : pk + 0 ≤ pickLimit := hpk
  refine ⟨Nat.le_of_ble_eq_true rfl, ?_⟩
  simp (config := { maxSteps := 1000000 }) only [go_sem, ↓ifP_true, ↓ifP_false, ↓ifP_not, Nat.reduceLT, Nat.reduceAdd, Nat.reduceBEq, Nat.reduceSub, Nat.reduceLeDiff, Nat.reduceEqDiff, Nat.reduceMul, Int.reduceToNat, Int.reduceEq, Int.reduceLT, Int.reduceLE, Int.reduceAdd, Int.reduceSub, Int.reduceMul, reduceCtorEq, cond_true, cond_false, forall_eq', forall_eq, forall_const, implies_true, if_true, if_false, exists_eq_left', exists_eq', exists_eq, ne_eq, Try.f39, tb39_32, tb39_79, tb39_85, tb39_86, spRvP_q, spRvP_A, spRvP_pre, spRvP_post, spVPath_q, spVPath_A, spVPath_pre, spVPath_post, spRings_q, spRings_A, spRings_pre, spRings_post, spBkP_q, spBkP_A, spBkP_pre, spBkP_post, spClipV_q, spClipV_A, spClipV_B, spClipV_d, spClipV_pre, spClipV_post]
  repeat' (first | apply And.intro | (intro _) | omega | assumption | with_reducible rfl)
  all_goals try (have hvp : vPath p = true := (by simpa using ‹(!vPath p) = false›); have hrT := rings_tot2 hvp; have hrO := rings_ok hvp; have hrA := rings_total hvp)
  any_goals
    refine loopGN 40 79 45 2 51 (α := Int × List Verb) true [0, 1, 2, 3, 5, 6, 7, 8, 9, 10, 11, 12, 13, 16, 17, 18, 19, 20, 21, 22, 23, 24, 25, 26, 27, 28, 29, 30, 31, 32, 33, 34, 35, 36, 37, 38, 39, 40, 41, 42, 43, 44, 45] (fun σ => [gId (σ.get 4), 79]) (fun σ x => [(16, I x.1)]) (fun σ x => [(gId (σ.get 4), some ⟨[[C.own 79 x.2.length false]], 1, 45, false, false⟩), (79, some ⟨x.2.map vbC, 2, 51, true, false⟩)]) (fun _ => 0) (fun σ => (gI (σ.get 16), gL vbCd σ (.c (.own 79 (boxN σ 79).es.length false)))) (fun _ _ => []) (fun x => (0 ≤ x.1 ∧ x.1 ≤ (ringsOf p).length) ∧ x.2 = rvP ((ringsOf p).take x.1.toNat)) (fun x => ((ringsOf p).length - x.1).toNat) ?_ ⟨?_, ?_⟩
    · simp (config := { maxSteps := 1000000 }) only [go_sem, ↓ifP_true, ↓ifP_false, ↓ifP_not, Nat.reduceLT, Nat.reduceAdd, Nat.reduceBEq, Nat.reduceSub, Nat.reduceLeDiff, Nat.reduceEqDiff, Nat.reduceMul, Int.reduceToNat, Int.reduceEq, Int.reduceLT, Int.reduceLE, Int.reduceAdd, Int.reduceSub, Int.reduceMul, reduceCtorEq, cond_true, cond_false, forall_eq', forall_eq, forall_const, implies_true, if_true, if_false, exists_eq_left', exists_eq', exists_eq, ne_eq, Try.f39, tb39_32, tb39_79, tb39_85, tb39_86, spRvP_q, spRvP_A, spRvP_pre, spRvP_post, spVPath_q, spVPath_A, spVPath_pre, spVPath_post, spRings_q, spRings_A, spRings_pre, spRings_post, spBkP_q, spBkP_A, spBkP_pre, spBkP_post, spClipV_q, spClipV_A, spClipV_B, spClipV_d, spClipV_pre, spClipV_post]
      repeat' (first | apply And.intro | (intro _) | omega | assumption | with_reducible rfl)
    · simp (config := { maxSteps := 1000000 }) only [go_sem, ↓ifP_true, ↓ifP_false, ↓ifP_not, Nat.reduceLT, Nat.reduceAdd, Nat.reduceBEq, Nat.reduceSub, Nat.reduceLeDiff, Nat.reduceEqDiff, Nat.reduceMul, Int.reduceToNat, Int.reduceEq, Int.reduceLT, Int.reduceLE, Int.reduceAdd, Int.reduceSub, Int.reduceMul, reduceCtorEq, cond_true, cond_false, forall_eq', forall_eq, forall_const, implies_true, if_true, if_false, exists_eq_left', exists_eq', exists_eq, ne_eq, Try.f39, tb39_32, tb39_79, tb39_85, tb39_86, spRvP_q, spRvP_A, spRvP_pre, spRvP_post, spVPath_q, spVPath_A, spVPath_pre, spVPath_post, spRings_q, spRings_A, spRings_pre, spRings_post, spBkP_q, spBkP_A, spBkP_pre, spBkP_post, spClipV_q, spClipV_A, spClipV_B, spClipV_d, spClipV_pre, spClipV_post]
      repeat' (first | apply And.intro | (intro _) | omega | assumption | with_reducible rfl)
      all_goals rfl
    · rintro ⟨i, o⟩ hinv
      dsimp only at hinv
      rcases elemAt (ringsOf p) i (by omega) with ⟨hlt, r, hk⟩ | hlt
      · have hlt2 := of_eq_true hlt
        have hr1 := hrO.2.2 r (List.mem_of_getElem? hk)
        have hto := total_take (ringsOf p) i.toNat
        have hol : o.length ≤ 10031 := (by rw [hinv.2, rvP_len, List.length_take]; omega)
        simp (config := { maxSteps := 1000000 }) only [go_sem, ↓ifP_true, ↓ifP_false, ↓ifP_not, Nat.reduceLT, Nat.reduceAdd, Nat.reduceBEq, Nat.reduceSub, Nat.reduceLeDiff, Nat.reduceEqDiff, Nat.reduceMul, Int.reduceToNat, Int.reduceEq, Int.reduceLT, Int.reduceLE, Int.reduceAdd, Int.reduceSub, Int.reduceMul, reduceCtorEq, cond_true, cond_false, forall_eq', forall_eq, forall_const, implies_true, if_true, if_false, exists_eq_left', exists_eq', exists_eq, ne_eq, Try.f39, tb39_32, tb39_79, tb39_85, tb39_86, spRvP_q, spRvP_A, spRvP_pre, spRvP_post, spVPath_q, spVPath_A, spVPath_pre, spVPath_post, spRings_q, spRings_A, spRings_pre, spRings_post, spBkP_q, spBkP_A, spBkP_pre, spBkP_post, spClipV_q, spClipV_A, spClipV_B, spClipV_d, spClipV_pre, spClipV_post, hlt, hk]
        repeat' (first | apply And.intro | (intro _) | omega | assumption | with_reducible rfl)
        all_goals try (omega)
        refine rfS r ptC (α := List Verb) true 2 true [0, 1, 2, 3, 5, 7, 8, 9, 10, 11, 12, 13, 17, 18, 19, 20, 21, 22, 23, 24, 25, 26, 27, 28, 29, 30, 31, 32, 33, 34, 35, 36, 37, 38, 39, 40, 41, 42, 43, 44, 45] (fun σ => [gId (σ.get 4), 79]) (fun σ o => [(gId (σ.get 4), some ⟨[[C.own 79 o.length false]], 1, 45, false, false⟩), (79, some ⟨o.map vbC, 2, 51, true, false⟩)]) (fun _ => 0) (fun σ => gL vbCd σ (.c (.own 79 (boxN σ 79).es.length false))) (fun _ _ => []) (fun n x => x = rvP ((ringsOf p).take i.toNat) ++ (rvR r).take (r.length - n)) (by rfl) ptC_len (by rfl) (by kernel_rfl) (by simp (config := { maxSteps := 1000000 }) only [go_sem, ↓ifP_true, ↓ifP_false, ↓ifP_not, Nat.reduceLT, Nat.reduceAdd, Nat.reduceBEq, Nat.reduceSub, Nat.reduceLeDiff, Nat.reduceEqDiff, Nat.reduceMul, Int.reduceToNat, Int.reduceEq, Int.reduceLT, Int.reduceLE, Int.reduceAdd, Int.reduceSub, Int.reduceMul, reduceCtorEq, cond_true, cond_false, forall_eq', forall_eq, forall_const, implies_true, if_true, if_false, exists_eq_left', exists_eq', exists_eq, ne_eq, Try.f39, tb39_32, tb39_79, tb39_85, tb39_86, spRvP_q, spRvP_A, spRvP_pre, spRvP_post, spVPath_q, spVPath_A, spVPath_pre, spVPath_post, spRings_q, spRings_A, spRings_pre, spRings_post, spBkP_q, spBkP_A, spBkP_pre, spBkP_post, spClipV_q, spClipV_A, spClipV_B, spClipV_d, spClipV_pre, spClipV_post]; repeat' (first | apply And.intro | (intro _) | omega | assumption | with_reducible rfl)) ⟨?_, by simp (config := { maxSteps := 1000000 }) only [go_sem, ↓ifP_true, ↓ifP_false, ↓ifP_not, Nat.reduceLT, Nat.reduceAdd, Nat.reduceBEq, Nat.reduceSub, Nat.reduceLeDiff, Nat.reduceEqDiff, Nat.reduceMul, Int.reduceToNat, Int.reduceEq, Int.reduceLT, Int.reduceLE, Int.reduceAdd, Int.reduceSub, Int.reduceMul, reduceCtorEq, cond_true, cond_false, forall_eq', forall_eq, forall_const, implies_true, if_true, if_false, exists_eq_left', exists_eq', exists_eq, ne_eq, Try.f39, tb39_32, tb39_79, tb39_85, tb39_86, spRvP_q, spRvP_A, spRvP_pre, spRvP_post, spVPath_q, spVPath_A, spVPath_pre, spVPath_post, spRings_q, spRings_A, spRings_pre, spRings_post, spBkP_q, spBkP_A, spBkP_pre, spBkP_post, spClipV_q, spClipV_A, spClipV_B, spClipV_d, spClipV_pre, spClipV_post]; repeat' (first | apply And.intro | (intro _) | omega | assumption | with_reducible rfl)⟩ ?_ ?_
        · simp (config := { maxSteps := 1000000 }) only [go_sem, ↓ifP_true, ↓ifP_false, ↓ifP_not, Nat.reduceLT, Nat.reduceAdd, Nat.reduceBEq, Nat.reduceSub, Nat.reduceLeDiff, Nat.reduceEqDiff, Nat.reduceMul, Int.reduceToNat, Int.reduceEq, Int.reduceLT, Int.reduceLE, Int.reduceAdd, Int.reduceSub, Int.reduceMul, reduceCtorEq, cond_true, cond_false, forall_eq', forall_eq, forall_const, implies_true, if_true, if_false, exists_eq_left', exists_eq', exists_eq, ne_eq, Try.f39, tb39_32, tb39_79, tb39_85, tb39_86, spRvP_q, spRvP_A, spRvP_pre, spRvP_post, spVPath_q, spVPath_A, spVPath_pre, spVPath_post, spRings_q, spRings_A, spRings_pre, spRings_post, spBkP_q, spBkP_A, spBkP_pre, spBkP_post, spClipV_q, spClipV_A, spClipV_B, spClipV_d, spClipV_pre, spClipV_post]
          rw [rvR_none, List.append_nil]; exact hinv.2
        · intro k x q hk2 hx9
          have hk3 := (List.getElem?_eq_some_iff.1 hk2).1
          have hxl : x.length ≤ 10300 := (by rw [hx9, List.length_append, List.length_take, rvP_len, rvR_len, List.length_take]; omega)
          simp (config := { maxSteps := 1000000 }) only [go_sem, ↓ifP_true, ↓ifP_false, ↓ifP_not, Nat.reduceLT, Nat.reduceAdd, Nat.reduceBEq, Nat.reduceSub, Nat.reduceLeDiff, Nat.reduceEqDiff, Nat.reduceMul, Int.reduceToNat, Int.reduceEq, Int.reduceLT, Int.reduceLE, Int.reduceAdd, Int.reduceSub, Int.reduceMul, reduceCtorEq, cond_true, cond_false, forall_eq', forall_eq, forall_const, implies_true, if_true, if_false, exists_eq_left', exists_eq', exists_eq, ne_eq, Try.f39, tb39_32, tb39_79, tb39_85, tb39_86, spRvP_q, spRvP_A, spRvP_pre, spRvP_post, spVPath_q, spVPath_A, spVPath_pre, spVPath_post, spRings_q, spRings_A, spRings_pre, spRings_post, spBkP_q, spBkP_A, spBkP_pre, spBkP_post, spClipV_q, spClipV_A, spClipV_B, spClipV_d, spClipV_pre, spClipV_post]
          repeat' (first | apply And.intro | (intro _) | omega | assumption | with_reducible rfl)
          all_goals (first | (omega; done) | ((simpa using hvp0); done) | (exact hvp; done) | (rfl; done) | ((rw [← hinv.2]; rfl); done) | ((rw [hx9, rvR_step hk2, if_pos (by omega), List.append_assoc]); done) | ((rw [hx9, rvR_step hk2, if_neg (by omega), List.append_assoc]); done) | ((rw [takeN hk hinv.1.1, rvP_snoc, hx9, rvR_all]); done) | ((rw [hx9, List.length_append, List.length_take, rvP_len]; omega); done))
        · intro x hx9
          have hxl : x.length ≤ 10300 := (by rw [hx9, List.length_append, List.length_take, rvP_len, rvR_len, List.length_take]; omega)
          simp (config := { maxSteps := 1000000 }) only [go_sem, ↓ifP_true, ↓ifP_false, ↓ifP_not, Nat.reduceLT, Nat.reduceAdd, Nat.reduceBEq, Nat.reduceSub, Nat.reduceLeDiff, Nat.reduceEqDiff, Nat.reduceMul, Int.reduceToNat, Int.reduceEq, Int.reduceLT, Int.reduceLE, Int.reduceAdd, Int.reduceSub, Int.reduceMul, reduceCtorEq, cond_true, cond_false, forall_eq', forall_eq, forall_const, implies_true, if_true, if_false, exists_eq_left', exists_eq', exists_eq, ne_eq, Try.f39, tb39_32, tb39_79, tb39_85, tb39_86, spRvP_q, spRvP_A, spRvP_pre, spRvP_post, spVPath_q, spVPath_A, spVPath_pre, spVPath_post, spRings_q, spRings_A, spRings_pre, spRings_post, spBkP_q, spBkP_A, spBkP_pre, spBkP_post, spClipV_q, spClipV_A, spClipV_B, spClipV_d, spClipV_pre, spClipV_post]
          repeat' (first | apply And.intro | (intro _) | omega | assumption | with_reducible rfl)
          all_goals (first | (omega; done) | ((simpa using hvp0); done) | (exact hvp; done) | (rfl; done) | ((rw [← hinv.2]; rfl); done) | ((rw [hx9, rvR_step hk2, if_pos (by omega), List.append_assoc]); done) | ((rw [hx9, rvR_step hk2, if_neg (by omega), List.append_assoc]); done) | ((rw [takeN hk hinv.1.1, rvP_snoc, hx9, rvR_all]); done) | ((rw [hx9, List.length_append, List.length_take, rvP_len]; omega); done))
      · have hlt2 := of_eq_false hlt
        have hoE : o = rvP (ringsOf p) := (by rw [hinv.2, takeA (by omega)])
        have hol : o.length ≤ 10031 := (by rw [hoE, rvP_len]; omega)
        have hop : nPts o ≤ 10000 := (by rw [hoE, rvP_pts]; omega)
        simp (config := { maxSteps := 1000000 }) only [go_sem, ↓ifP_true, ↓ifP_false, ↓ifP_not, Nat.reduceLT, Nat.reduceAdd, Nat.reduceBEq, Nat.reduceSub, Nat.reduceLeDiff, Nat.reduceEqDiff, Nat.reduceMul, Int.reduceToNat, Int.reduceEq, Int.reduceLT, Int.reduceLE, Int.reduceAdd, Int.reduceSub, Int.reduceMul, reduceCtorEq, cond_true, cond_false, forall_eq', forall_eq, forall_const, implies_true, if_true, if_false, exists_eq_left', exists_eq', exists_eq, ne_eq, Try.f39, tb39_32, tb39_79, tb39_85, tb39_86, spRvP_q, spRvP_A, spRvP_pre, spRvP_post, spVPath_q, spVPath_A, spVPath_pre, spVPath_post, spRings_q, spRings_A, spRings_pre, spRings_post, spBkP_q, spBkP_A, spBkP_pre, spBkP_post, spClipV_q, spClipV_A, spClipV_B, spClipV_d, spClipV_pre, spClipV_post, hlt]
        repeat' (first | apply And.intro | (intro _) | omega | assumption | with_reducible rfl)
        all_goals (first | (omega; done) | ((rw [(rvO_no2 (by rw [← hoE]; assumption)).2]; rfl); done) | ((rw [(rvO_no2 (by rw [← hoE]; assumption)).1]); done) | ((rw [(rvO_yes hvp (by rw [← hoE]; simpa using ‹(!vPath o) = false›)).2, hoE]); done) | ((rw [(rvO_yes hvp (by rw [← hoE]; simpa using ‹(!vPath o) = false›)).1]); done) | ((rw [hoE, rvP_len]; omega); done) | ((rw [hoE, rvP_pts]; omega); done))
  all_goals (first | (exact hvp; done) | ((rw [(rvO_no1 ‹_›).2]; rfl); done) | ((rw [(rvO_no1 ‹_›).1]); done))
theorem sat_impl_ReversePath : Sat Try.prog rt0 39 (wkIn spRvP) := sat_in (sat_out sat_impl_ReversePath_0)
end Go.Proofs.Ytjjmjidchehffaa
end
section
set_option maxRecDepth 100000
set_option linter.unusedSimpArgs false
set_option linter.unusedVariables false
namespace Go.Proofs.Ytjjmjidchehffaa
open Go Go.VE
def tb40 : Nat → Option VE.Spec := tabOf [(81, wkIn spVPath), (82, wkIn spRings)]
theorem tb40_81 : tb40 81 = some (wkIn spVPath) := rfl
theorem tb40_82 : tb40 82 = some (wkIn spRings) := rfl
theorem tb40_ok : TabOK Try.prog rt0 tb40 := (tabOf_cons (by kernel_rfl) sat_spec_validPath (tabOf_cons (by kernel_rfl) sat_spec_rings tabOf_nil))
set_option maxHeartbeats 4000000 in
theorem sat_spec_ReversePath_0 : Sat Try.prog rt0 40 (wkOut spRvP) := by
  refine fn_sat hm ttok (tab := tb40) tb40_ok Try.func40 (c := Try.f40.body.getD .skip) (by kernel_rfl) (ts := [.tmp 2, .tmp 3]) (by kernel_rfl) Try.ntmps40 (sq := fun _ => true) (by kernel_rfl) ?_
  intro args ins pk hpre0 hpk
  obtain ⟨rfl, hpre0⟩ := hpre0
  obtain ⟨p, rfl, hpre, hdec⟩ := famPre_ex hpre0
  clear hpre0 hdec
  try simp only [spRvP_pre] at hpre
  replace hpk : pk + 0 ≤ pickLimit := hpk
  refine ⟨Nat.le_of_ble_eq_true rfl, ?_⟩
  simp (config := { maxSteps := 1000000 }) only [go_sem, ↓ifP_true, ↓ifP_false, ↓ifP_not, Nat.reduceLT, Nat.reduceAdd, Nat.reduceBEq, Nat.reduceSub, Nat.reduceLeDiff, Nat.reduceEqDiff, Nat.reduceMul, Int.reduceToNat, Int.reduceEq, Int.reduceLT, Int.reduceLE, Int.reduceAdd, Int.reduceSub, Int.reduceMul, reduceCtorEq, cond_true, cond_false, forall_eq', forall_eq, forall_const, implies_true, if_true, if_false, exists_eq_left', exists_eq', exists_eq, ne_eq, Try.f40, tb40_81, tb40_82, spRvP_q, spRvP_A, spRvP_pre, spRvP_post, spVPath_q, spVPath_A, spVPath_pre, spVPath_post, spRings_q, spRings_A, spRings_pre, spRings_post]
  repeat' (first | apply And.intro | (intro _) | omega | assumption | with_reducible rfl)
  all_goals try (have hvp : vPath p = true := (by simpa using ‹vPath p = true›); have hrT := rings_tot2 hvp; have hrO := rings_ok hvp; have hrA := rings_total hvp)
  any_goals
    refine loopS (α := (List Verb) × Int) true [0, 1, 4, 6, 7, 8, 9, 10, 11, 12, 13, 14, 15, 16, 17, 18, 19, 20, 21, 22, 23, 24, 25, 26, 27, 28, 29, 30, 31, 32, 33, 34, 35, 36, 37, 38, 39, 40, 41, 42, 43, 44, 45, 46, 47, 48, 49, 50, 51, 52, 53, 54, 55, 58] (fun σ => [gId (σ.get 4)]) (fun σ x => [(4, .c (.own (gId (σ.get 4)) (x.1).length false)), (6, I x.2)]) (fun σ x => [(gId (σ.get 4), some ⟨(x.1).map vbC, 2, 51, true, false⟩)]) (fun (o, i) => 0) (fun σ => (gL vbCd σ (σ.get 4), gI (σ.get 6))) (fun σ τ => [(gId (σ.get 4), gId (τ.get 4))]) (fun (o, i) => (0 ≤ i ∧ i ≤ (ringsOf p).length) ∧ o = rvP ((ringsOf p).take i.toNat)) (fun (o, i) => ((ringsOf p).length - i).toNat) ⟨by (simp (config := { maxSteps := 1000000 }) only [go_sem, ↓ifP_true, ↓ifP_false, ↓ifP_not, Nat.reduceLT, Nat.reduceAdd, Nat.reduceBEq, Nat.reduceSub, Nat.reduceLeDiff, Nat.reduceEqDiff, Nat.reduceMul, Int.reduceToNat, Int.reduceEq, Int.reduceLT, Int.reduceLE, Int.reduceAdd, Int.reduceSub, Int.reduceMul, reduceCtorEq, cond_true, cond_false, forall_eq', forall_eq, forall_const, implies_true, if_true, if_false, exists_eq_left', exists_eq', exists_eq, ne_eq, Try.f40, tb40_81, tb40_82, spRvP_q, spRvP_A, spRvP_pre, spRvP_post, spVPath_q, spVPath_A, spVPath_pre, spVPath_post, spRings_q, spRings_A, spRings_pre, spRings_post]; (repeat' (first | apply And.intro | (intro _) | omega | assumption | with_reducible rfl)); all_goals (first | rfl)), ?_⟩
    rintro ⟨o, i⟩ hinv
    try dsimp only at hinv
    rcases elemAt (ringsOf p) i (by omega) with ⟨hlt, r, hk⟩ | hlt
    all_goals (first | ((have hlt2 := of_eq_true hlt); (have hr1 := hrO.2.2 r (List.mem_of_getElem? hk)); (have hto := total_take (ringsOf p) i.toNat); (have hol : o.length ≤ 10031 := (by rw [hinv.2, rvP_len, List.length_take]; omega)); all_goals simp (config := { maxSteps := 1000000 }) only [go_sem, ↓ifP_true, ↓ifP_false, ↓ifP_not, Nat.reduceLT, Nat.reduceAdd, Nat.reduceBEq, Nat.reduceSub, Nat.reduceLeDiff, Nat.reduceEqDiff, Nat.reduceMul, Int.reduceToNat, Int.reduceEq, Int.reduceLT, Int.reduceLE, Int.reduceAdd, Int.reduceSub, Int.reduceMul, reduceCtorEq, cond_true, cond_false, forall_eq', forall_eq, forall_const, implies_true, if_true, if_false, exists_eq_left', exists_eq', exists_eq, ne_eq, Try.f40, tb40_81, tb40_82, spRvP_q, spRvP_A, spRvP_pre, spRvP_post, spVPath_q, spVPath_A, spVPath_pre, spVPath_post, spRings_q, spRings_A, spRings_pre, spRings_post, hlt, hk]) | (have hlt2 := of_eq_false hlt; simp (config := { maxSteps := 1000000 }) only [go_sem, ↓ifP_true, ↓ifP_false, ↓ifP_not, Nat.reduceLT, Nat.reduceAdd, Nat.reduceBEq, Nat.reduceSub, Nat.reduceLeDiff, Nat.reduceEqDiff, Nat.reduceMul, Int.reduceToNat, Int.reduceEq, Int.reduceLT, Int.reduceLE, Int.reduceAdd, Int.reduceSub, Int.reduceMul, reduceCtorEq, cond_true, cond_false, forall_eq', forall_eq, forall_const, implies_true, if_true, if_false, exists_eq_left', exists_eq', exists_eq, ne_eq, Try.f40, tb40_81, tb40_82, spRvP_q, spRvP_A, spRvP_pre, spRvP_post, spVPath_q, spVPath_A, spVPath_pre, spVPath_post, spRings_q, spRings_A, spRings_pre, spRings_post, hlt]))
    all_goals
    repeat' (first | apply And.intro | (intro _) | omega | assumption | with_reducible rfl)
  any_goals
    have hk0 := hk
    have hlt0 := hlt
    refine loopS (α := (List Verb) × Int) true [0, 1, 4, 7, 8, 9, 10, 11, 12, 13, 14, 15, 16, 17, 18, 19, 20, 21, 22, 23, 24, 25, 26, 27, 28, 29, 30, 31, 32, 33, 34, 35, 36, 37, 38, 39, 40, 41, 42, 43, 44, 45, 46, 47, 48, 49, 50, 51, 58] (fun σ => [gId (σ.get 4)]) (fun σ x => [(4, .c (.own (gId (σ.get 4)) (x.1).length false)), (7, I x.2)]) (fun σ x => [(gId (σ.get 4), some ⟨(x.1).map vbC, 2, 51, true, false⟩)]) (fun (q, k) => 0) (fun σ => (gL vbCd σ (σ.get 4), gI (σ.get 7))) (fun σ τ => [(gId (σ.get 4), gId (τ.get 4))]) (fun (q, k) => (-1 ≤ k ∧ k < r.length) ∧ q = rvP ((ringsOf p).take i.toNat) ++ (rvR r).take (r.length - (k + 1).toNat)) (fun (q, k) => (k + 1).toNat) ⟨by (simp (config := { maxSteps := 1000000 }) only [go_sem, ↓ifP_true, ↓ifP_false, ↓ifP_not, Nat.reduceLT, Nat.reduceAdd, Nat.reduceBEq, Nat.reduceSub, Nat.reduceLeDiff, Nat.reduceEqDiff, Nat.reduceMul, Int.reduceToNat, Int.reduceEq, Int.reduceLT, Int.reduceLE, Int.reduceAdd, Int.reduceSub, Int.reduceMul, reduceCtorEq, cond_true, cond_false, forall_eq', forall_eq, forall_const, implies_true, if_true, if_false, exists_eq_left', exists_eq', exists_eq, ne_eq, Try.f40, tb40_81, tb40_82, spRvP_q, spRvP_A, spRvP_pre, spRvP_post, spVPath_q, spVPath_A, spVPath_pre, spVPath_post, spRings_q, spRings_A, spRings_pre, spRings_post, hlt0, hk0]; (repeat' (first | apply And.intro | (intro _) | omega | assumption | with_reducible rfl)); all_goals (first | (rw [show r.length - ((r.length : Int) - 1 + 1).toNat = 0 by omega, List.take_zero, List.append_nil]; exact hinv.2))), ?_⟩
    rintro ⟨q, k⟩ hinv
    try dsimp only at hinv
    simp (config := { maxSteps := 1000000 }) only [go_sem, ↓ifP_true, ↓ifP_false, ↓ifP_not, Nat.reduceLT, Nat.reduceAdd, Nat.reduceBEq, Nat.reduceSub, Nat.reduceLeDiff, Nat.reduceEqDiff, Nat.reduceMul, Int.reduceToNat, Int.reduceEq, Int.reduceLT, Int.reduceLE, Int.reduceAdd, Int.reduceSub, Int.reduceMul, reduceCtorEq, cond_true, cond_false, forall_eq', forall_eq, forall_const, implies_true, if_true, if_false, exists_eq_left', exists_eq', exists_eq, ne_eq, Try.f40, tb40_81, tb40_82, spRvP_q, spRvP_A, spRvP_pre, spRvP_post, spVPath_q, spVPath_A, spVPath_pre, spVPath_post, spRings_q, spRings_A, spRings_pre, spRings_post, hlt0, hk0]
    have hql : q.length ≤ 10300 := (by rw [hinv.2, List.length_append, List.length_take, rvP_len, rvR_len, List.length_take]; omega)
    repeat' (first | apply And.intro | (intro _) | omega | assumption | with_reducible rfl)
  all_goals try (have hoE : o = rvP (ringsOf p) := (by rw [hinv.2, takeA (by omega)]); have hol : o.length ≤ 10031 := (by rw [hoE, rvP_len]; omega); have hop : nPts o ≤ 10000 := (by rw [hoE, rvP_pts]; omega))
  all_goals (first | (omega; done) | ((rw [hinv.2, show (k - 1 + 1).toNat = k.toNat by omega, show (k + 1).toNat = k.toNat + 1 by omega, rvR_step ‹r[k.toNat]? = some _›, if_pos (by omega), List.append_assoc]); done) | ((rw [hinv.2, show (k - 1 + 1).toNat = k.toNat by omega, show (k + 1).toNat = k.toNat + 1 by omega, rvR_step ‹r[k.toNat]? = some _›, if_neg (by omega), List.append_assoc]); done) | ((rw [takeN hk0 (by omega), rvP_snoc, hinv.2, show (k + 1).toNat = 0 by omega, rvR_all]); done) | ((rw [(rvO_yes hvp (hoE ▸ ‹vPath o = true›)).2, hoE]); done) | ((rw [(rvO_yes hvp (hoE ▸ ‹vPath o = true›)).1]); done) | ((rw [(rvO_no2 (hoE ▸ ‹vPath o = false›)).2]; rfl); done) | ((rw [(rvO_no2 (hoE ▸ ‹vPath o = false›)).1]); done) | ((rw [(rvO_no1 ‹_›).2]; rfl); done) | ((rw [(rvO_no1 ‹_›).1]); done))
theorem sat_spec_ReversePath : Sat Try.prog rt0 40 (wkIn spRvP) := sat_in (sat_out sat_spec_ReversePath_0)
end Go.Proofs.Ytjjmjidchehffaa
end
section
set_option maxRecDepth 100000
set_option linter.unusedSimpArgs false
set_option linter.unusedVariables false
namespace Go.Proofs.Ytjjmjidchehffaa
open Go Go.VE
theorem flatP_two (x q : Pt) : flatP 3 [x, q] = [q] := by simp [flatP, bendP]
def finR (s : List (List Pt) × List Pt) : List (List Pt) := if s.2 = [] then s.1 else s.1 ++ [s.2]
theorem fold_lines (o : List (List Pt)) : ∀ (t m : List Pt), m ≠ [] → (t.map fun q => (⟨1, [q]⟩ : Verb)).foldl ringStep (o, m) = (o, m ++ t)
  | [], m, _ => by simp
  | q :: t, m, hm => by
    have e : ringStep (o, m) ⟨1, [q]⟩ = (o, m ++ [q]) := by
      unfold ringStep
      rw [if_neg (show ¬ (1 : Int) = 0 by decide), if_neg (show ¬ (1 : Int) = 4 by decide), flatP_two]
    rw [List.map_cons, List.foldl_cons, e, fold_lines o t (m ++ [q]) (by simp), List.append_assoc]; rfl
theorem rvR_cons {r : List Pt} {a : Pt} {t : List Pt} (h : r.reverse = a :: t) : rvR r = (⟨0, [a]⟩ : Verb) :: t.map fun q => (⟨1, [q]⟩ : Verb) := by
  unfold rvR
  rw [h]
  apply List.ext_getElem?
  intro i
  rw [List.getElem?_mapIdx]
  cases i with
  | zero => rfl
  | succ i =>
    rw [List.getElem?_cons_succ, List.getElem?_cons_succ, List.getElem?_map]
    simp
theorem rev_cons {r : List Pt} (h : r ≠ []) : ∃ a t, r.reverse = a :: t := by
  cases hr : r.reverse with
  | nil => exact absurd (by simpa using hr) h
  | cons a t => exact ⟨a, t, rfl⟩
theorem fold_ring (s : List (List Pt) × List Pt) {r : List Pt} (h : r ≠ []) : (rvR r ++ [(⟨4, []⟩ : Verb)]).foldl ringStep s = (finR s, r.reverse) := by
  obtain ⟨a, t, e⟩ := rev_cons h
  have e1 : ringStep s ⟨0, [a]⟩ = (finR s, [a]) := by
    unfold ringStep
    rw [if_pos rfl]; rfl
  rw [rvR_cons e, List.foldl_append]
  show List.foldl ringStep (List.foldl ringStep (ringStep s ⟨0, [a]⟩) (t.map fun q => (⟨1, [q]⟩ : Verb))) [(⟨4, []⟩ : Verb)] = _
  rw [e1, fold_lines _ _ _ (by simp), e]
  rfl
theorem fold_rvP : ∀ (L : List (List Pt)) (s : List (List Pt) × List Pt), (∀ r ∈ L, r ≠ []) → finR ((rvP L).foldl ringStep s) = finR s ++ revL L
  | [], s, _ => by simp [rvP, revL]
  | r :: L, s, h => by
    have e : rvP (r :: L) = (rvR r ++ [(⟨4, []⟩ : Verb)]) ++ rvP L := by simp [rvP]
    have hr := h r (by simp)
    rw [e, List.foldl_append, fold_ring s hr, fold_rvP L _ fun q hq => h q (by simp [hq])]
    have e2 : finR (finR s, r.reverse) = finR s ++ [r.reverse] := by
      unfold finR
      rw [if_neg (by simpa using hr)]
    rw [e2]
    simp [revL]
theorem rings_rvP {L : List (List Pt)} (h : ∀ r ∈ L, r ≠ []) : ringsOf (rvP L) = revL L := by
  have := fold_rvP L ([], []) h
  exact this
theorem rings_pos {p : List Verb} (h : vPath p = true) : ∀ r ∈ ringsOf p, r ≠ [] := by
  have := ringInv_at h p.length (Nat.le_refl _)
  rw [List.take_length] at this
  obtain ⟨h1, h2, h3, h4, h5⟩ := this
  intro r hr
  unfold ringsOf at hr
  split at hr
  · have := (h5 r hr).2.1
    rintro rfl; cases this
  · rename_i hne
    rcases List.mem_append.1 hr with hr | hr
    · have := (h5 r hr).2.1
      rintro rfl; cases this
    · rw [List.mem_singleton] at hr
      rw [hr]; exact hne
theorem vPts_one (q : Pt) : vPts [q] = vPt q := by simp [vPts]
theorem vv_lines : ∀ (t : List Pt) (rest : List Verb), vVerbs false ((t.map fun q => (⟨1, [q]⟩ : Verb)) ++ (⟨4, []⟩ : Verb) :: rest) = (t.all vPt && vVerbs true rest)
  | [], rest => by simp [vVerbs, vVerb, many, vPts]
  | q :: t, rest => by
    have ih := vv_lines t rest
    rw [List.map_cons, List.cons_append, vVerbs]
    have e : vVerb false ⟨1, [q]⟩ = vPt q := by simp [vVerb, many, vPts_one]
    have e2 : decide ((⟨1, [q]⟩ : Verb).k = 4) = false := rfl
    rw [e, e2, ih, List.all_cons, Bool.and_assoc]
theorem vv_ring (b : Bool) {r : List Pt} (h : r ≠ []) (rest : List Verb) : vVerbs b (rvR r ++ (⟨4, []⟩ : Verb) :: rest) = (r.all vPt && vVerbs true rest) := by
  obtain ⟨a, t, e⟩ := rev_cons h
  have e1 : vVerb b ⟨0, [a]⟩ = vPt a := by simp [vVerb, many, vPts_one]
  have e2 : decide ((⟨0, [a]⟩ : Verb).k = 4) = false := rfl
  rw [rvR_cons e, List.cons_append, vVerbs, e1, e2, vv_lines, ← Bool.and_assoc]
  congr 1
  rw [← List.all_reverse (l := r), e, List.all_cons]
theorem vv_rvP : ∀ (L : List (List Pt)) (b : Bool), (∀ r ∈ L, r ≠ []) → vVerbs b (rvP L) = L.all (fun r => r.all vPt)
  | [], _, _ => rfl
  | r :: L, b, h => by
    have e : rvP (r :: L) = rvR r ++ (⟨4, []⟩ : Verb) :: rvP L := by simp [rvP]
    rw [e, vv_ring b (h r (by simp)), vv_rvP L true fun q hq => h q (by simp [hq])]; rfl
theorem rv_valid {L : List (List Pt)} (h : ∀ r ∈ L, r ≠ []) : vPath (rvP (revL L)) = vPath (rvP L) := by
  have h2 : ∀ r ∈ revL L, r ≠ [] := by
    intro r hr
    obtain ⟨q, hq, rfl⟩ := List.mem_map.1 hr
    simpa using h q hq
  have e : (revL L).all (fun r => r.all vPt) = L.all (fun r => r.all vPt) := by
    simp only [revL, List.all_map, Function.comp_def, List.all_reverse]
  simp only [vPath, vv_rvP _ _ h, vv_rvP _ _ h2, e, rvP_len, rvP_pts, revL_total, revL_len]
theorem revL_revL (L : List (List Pt)) : revL (revL L) = L := by
  unfold revL
  rw [List.map_map]
  exact (List.map_congr_left fun r _ => List.reverse_reverse r).trans (List.map_id L)
theorem rev_rings {p : List Verb} (h : rvB p = true) : ringsV (rvO p) = revL (ringsV p) := by
  simp only [rvB, Bool.and_eq_true] at h
  rw [(rvO_yes h.1 h.2).2, ringsV_yes h.2, ringsV_yes h.1, rings_rvP (rings_pos h.1)]
theorem rev_twice {p : List Verb} (h : rvB p = true) : rvB (rvO p) = true ∧ ringsV (rvO (rvO p)) = ringsV p := by
  have h0 := h
  simp only [rvB, Bool.and_eq_true] at h
  have e := (rvO_yes h.1 h.2).2
  have e2 : rvB (rvO p) = true := by
    rw [e, rvB, rings_rvP (rings_pos h.1), rv_valid (rings_pos h.1), h.2]; rfl
  refine ⟨e2, ?_⟩
  rw [rev_rings e2, rev_rings h0, revL_revL]
theorem areaE_rev (L : List (List Pt)) : areaE (edgesOf (revL L)) = -areaE (edgesOf L) := by
  unfold areaE
  rw [sum_perm ((edges_rev L).map _), List.map_map]
  have e : ((fun e : Edge => e.p.x * e.q.y - e.p.y * e.q.x) ∘ swE) = fun e => -(e.p.x * e.q.y - e.p.y * e.q.x) := funext fun e => by
    show e.q.x * e.p.y - e.q.y * e.p.x = _
    rw [Int.mul_comm e.q.x, Int.mul_comm e.q.y]; omega
  rw [e]
  induction edgesOf L with
  | nil => rfl
  | cons a l ih => simp only [List.map_cons, List.sum_cons, ih]; omega
theorem areaR_rev (L : List (List Pt)) : areaR (revL L) = -areaR L := by
  unfold areaR
  rw [vRings_rev, areaE_rev]
  split <;> rfl
theorem areaR_bd (L : List (List Pt)) : -3600000000 ≤ areaR L ∧ areaR L ≤ 3600000000 := by
  unfold areaR
  split
  · rename_i h
    have := area_part h (edgesOf L).length
    rwa [List.take_length] at this
  · omega
theorem rev_area {p : List Verb} (h : rvB p = true) : areaR (ringsV (rvO p)) = -areaR (ringsV p) := by rw [rev_rings h, areaR_rev]
theorem rvO_len (p : List Verb) : (rvO p).length ≤ 30 ∧ nPts (rvO p) ≤ 40 := by
  unfold rvO
  split
  · rename_i h
    simp only [rvB, vPath, Bool.and_eq_true, decide_eq_true_eq] at h
    exact ⟨h.2.1.2, h.2.2⟩
  · simp [nPts]
theorem vb_eq {v w : Verb} (h1 : v.k = w.k) (h2 : v.ps = w.ps) : v = w := by
  cases v; cases w; cases h1; cases h2; rfl
def spEqV_A : (List Verb) × (List Verb) → List AV
  | (a, b) => [.c (.sl false (a.map vbC)), .c (.sl false (b.map vbC))]
def spEqV_pre : (List Verb) × (List Verb) → Prop
  | (a, b) => a.length ≤ 1000000000 ∧ b.length ≤ 1000000000 ∧ nPts a ≤ 1000000000 ∧ nPts b ≤ 1000000000
def spEqV_post : (List Verb) × (List Verb) → AV → List Box → Prop
  | (a, b), r, bs => r = B (decide (a = b)) ∧ bs = []
def spEqV : VE.Spec := famSpec spEqV_A d_lvb_lvb spEqV_pre spEqV_post 0 true
theorem spEqV_q : spEqV.flat = true ∧ spEqV.mt = [] ∧ spEqV.shut = false ∧ spEqV.cost = 0 ∧ (∀ a i, spEqV.pre a i = (i = [] ∧ famPre d_lvb_lvb spEqV_A spEqV_pre a)) ∧ ∀ a i r b, spEqV.post a i r b = (famPost d_lvb_lvb spEqV_post a r b) := ⟨rfl, rfl, rfl, rfl, fun _ _ => rfl, fun _ _ _ _ => rfl⟩
def tb41 : Nat → Option VE.Spec := tabOf [(80, wkIn spEqP)]
theorem tb41_80 : tb41 80 = some (wkIn spEqP) := rfl
theorem tb41_ok : TabOK Try.prog rt0 tb41 := (tabOf_cons (by kernel_rfl) sat_laws_equalPoints tabOf_nil)
set_option maxHeartbeats 4000000 in
theorem sat_laws_equalPath_0 : Sat Try.prog rt0 41 (wkOut spEqV) := by
  refine fn_sat hm ttok (tab := tb41) tb41_ok Try.func41 (c := Try.f41.body.getD .skip) (by kernel_rfl) (ts := [.tmp 4]) (by kernel_rfl) Try.ntmps41 (sq := fun _ => true) (by kernel_rfl) ?_
  intro args ins pk hpre0 hpk
  obtain ⟨rfl, hpre0⟩ := hpre0
  obtain ⟨⟨a, b⟩, rfl, hpre, hdec⟩ := famPre_ex hpre0
  clear hpre0 hdec
  try simp only [spEqV_pre] at hpre
  replace hpk : pk + 0 ≤ pickLimit := hpk
  refine ⟨Nat.le_of_ble_eq_true rfl, ?_⟩
  simp (config := { maxSteps := 1000000 }) only [go_sem, ↓ifP_true, ↓ifP_false, ↓ifP_not, Nat.reduceLT, Nat.reduceAdd, Nat.reduceBEq, Nat.reduceSub, Nat.reduceLeDiff, Nat.reduceEqDiff, Nat.reduceMul, Int.reduceToNat, Int.reduceEq, Int.reduceLT, Int.reduceLE, Int.reduceAdd, Int.reduceSub, Int.reduceMul, reduceCtorEq, cond_true, cond_false, forall_eq', forall_eq, forall_const, implies_true, if_true, if_false, exists_eq_left', exists_eq', exists_eq, ne_eq, Try.f41, tb41_80, spEqV_q, spEqV_A, spEqV_pre, spEqV_post, spEqP_q, spEqP_A, spEqP_pre, spEqP_post]
  repeat' (first | apply And.intro | (intro _) | omega | assumption | with_reducible rfl)
  any_goals
    refine loopS (α := Int) false [2, 3, 4, 5, 6, 7, 8, 9, 10, 11, 12, 13, 14, 15, 16, 17, 18, 19, 20, 21, 22, 23, 24, 25, 26, 27, 28, 29, 30, 31, 32, 33, 34, 35, 36, 37, 38, 39, 40, 41] (fun σ => []) (fun σ x => [(5, I x)]) (fun σ x => []) (fun i => 0) (fun σ => gI (σ.get 5)) (fun σ τ => []) (fun i => 0 ≤ i ∧ i ≤ a.length ∧ a.take i.toNat = b.take i.toNat) (fun i => (a.length - i).toNat) ⟨by (simp (config := { maxSteps := 1000000 }) only [go_sem, ↓ifP_true, ↓ifP_false, ↓ifP_not, Nat.reduceLT, Nat.reduceAdd, Nat.reduceBEq, Nat.reduceSub, Nat.reduceLeDiff, Nat.reduceEqDiff, Nat.reduceMul, Int.reduceToNat, Int.reduceEq, Int.reduceLT, Int.reduceLE, Int.reduceAdd, Int.reduceSub, Int.reduceMul, reduceCtorEq, cond_true, cond_false, forall_eq', forall_eq, forall_const, implies_true, if_true, if_false, exists_eq_left', exists_eq', exists_eq, ne_eq, Try.f41, tb41_80, spEqV_q, spEqV_A, spEqV_pre, spEqV_post, spEqP_q, spEqP_A, spEqP_pre, spEqP_post]; (repeat' (first | apply And.intro | (intro _) | omega | assumption | with_reducible rfl)); all_goals (first | rfl)), ?_⟩
    rintro i hinv
    try dsimp only at hinv
    rcases elemAt a i (by omega) with ⟨hlt, x, hk⟩ | hlt
    all_goals (first | ((have hlt2 := of_eq_true hlt); (obtain ⟨y, hy⟩ : ∃ y, b[i.toNat]? = some y := ⟨_, List.getElem?_eq_getElem (by omega)⟩); (have h8 := nPts_mem hk); (have h7 := nPts_mem hy); all_goals (first | simp (config := { maxSteps := 1000000 }) only [go_sem, ↓ifP_true, ↓ifP_false, ↓ifP_not, Nat.reduceLT, Nat.reduceAdd, Nat.reduceBEq, Nat.reduceSub, Nat.reduceLeDiff, Nat.reduceEqDiff, Nat.reduceMul, Int.reduceToNat, Int.reduceEq, Int.reduceLT, Int.reduceLE, Int.reduceAdd, Int.reduceSub, Int.reduceMul, reduceCtorEq, cond_true, cond_false, forall_eq', forall_eq, forall_const, implies_true, if_true, if_false, exists_eq_left', exists_eq', exists_eq, ne_eq, Try.f41, tb41_80, spEqV_q, spEqV_A, spEqV_pre, spEqV_post, spEqP_q, spEqP_A, spEqP_pre, spEqP_post, hlt, hk, hy] | simp (config := { maxSteps := 1000000 }) only [go_sem, ↓ifP_true, ↓ifP_false, ↓ifP_not, Nat.reduceLT, Nat.reduceAdd, Nat.reduceBEq, Nat.reduceSub, Nat.reduceLeDiff, Nat.reduceEqDiff, Nat.reduceMul, Int.reduceToNat, Int.reduceEq, Int.reduceLT, Int.reduceLE, Int.reduceAdd, Int.reduceSub, Int.reduceMul, reduceCtorEq, cond_true, cond_false, forall_eq', forall_eq, forall_const, implies_true, if_true, if_false, exists_eq_left', exists_eq', exists_eq, ne_eq, Try.f41, tb41_80, spEqV_q, spEqV_A, spEqV_pre, spEqV_post, spEqP_q, spEqP_A, spEqP_pre, spEqP_post, hlt, hk])) | (have hlt2 := of_eq_false hlt; (first | simp (config := { maxSteps := 1000000 }) only [go_sem, ↓ifP_true, ↓ifP_false, ↓ifP_not, Nat.reduceLT, Nat.reduceAdd, Nat.reduceBEq, Nat.reduceSub, Nat.reduceLeDiff, Nat.reduceEqDiff, Nat.reduceMul, Int.reduceToNat, Int.reduceEq, Int.reduceLT, Int.reduceLE, Int.reduceAdd, Int.reduceSub, Int.reduceMul, reduceCtorEq, cond_true, cond_false, forall_eq', forall_eq, forall_const, implies_true, if_true, if_false, exists_eq_left', exists_eq', exists_eq, ne_eq, Try.f41, tb41_80, spEqV_q, spEqV_A, spEqV_pre, spEqV_post, spEqP_q, spEqP_A, spEqP_pre, spEqP_post, hlt, hy] | simp (config := { maxSteps := 1000000 }) only [go_sem, ↓ifP_true, ↓ifP_false, ↓ifP_not, Nat.reduceLT, Nat.reduceAdd, Nat.reduceBEq, Nat.reduceSub, Nat.reduceLeDiff, Nat.reduceEqDiff, Nat.reduceMul, Int.reduceToNat, Int.reduceEq, Int.reduceLT, Int.reduceLE, Int.reduceAdd, Int.reduceSub, Int.reduceMul, reduceCtorEq, cond_true, cond_false, forall_eq', forall_eq, forall_const, implies_true, if_true, if_false, exists_eq_left', exists_eq', exists_eq, ne_eq, Try.f41, tb41_80, spEqV_q, spEqV_A, spEqV_pre, spEqV_post, spEqP_q, spEqP_A, spEqP_pre, spEqP_post, hlt])))
    all_goals
      repeat' (first | apply And.intro | (intro _) | omega | assumption | with_reducible rfl)
  
  all_goals (first | (exact eqL_step hk hy (vb_eq ‹x.k = y.k› ‹x.ps = y.ps›) hinv.1 hinv.2.2; done) | (exact (decide_eq_false (eqL_no hk hy fun e => ‹¬ x.ps = y.ps› (e ▸ rfl))).symm; done) | (exact (decide_eq_false (eqL_no hk hy fun e => ‹¬ x.k = y.k› (e ▸ rfl))).symm; done) | (exact (decide_eq_true (eqL_end ‹_› hlt2 hinv.2.2)).symm; done) | (exact (decide_eq_false (eqL_len ‹_›)).symm; done) | (omega; done))
theorem sat_laws_equalPath : Sat Try.prog rt0 41 (wkIn spEqV) := sat_in (sat_out sat_laws_equalPath_0)
end Go.Proofs.Ytjjmjidchehffaa
end
