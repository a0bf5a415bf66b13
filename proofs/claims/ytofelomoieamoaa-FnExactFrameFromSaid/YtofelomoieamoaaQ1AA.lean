/- Contracts of functions of the program vectorraster, each proved for all states that fit its description. No conditions. -/
import Derived.Test.YtofelomoieamoaaQ1A2
import Derived.Test.YtofelomoieamoaaKK
set_option maxRecDepth 100000
set_option linter.unusedSimpArgs false
set_option linter.unusedVariables false
namespace Go.Proofs.Ytofelomoieamoaa
open Go Go.VE
theorem nil_ofC {l : List Colr} {b : Bool} (h : ¬ List.map coC l = [] → b = false) (hb : b = true) : l = [] := by
  by_cases e : List.map coC l = []
  · exact List.map_eq_nil_iff.1 e
  · rw [h e] at hb; cases hb
def spCloneC_A : (List Colr) → List AV
  | l => [.c (.sl false (l.map coC))]
def spCloneC_pre : (List Colr) → Prop
  | l => l.length ≤ 1000000000
def spCloneC_post : (List Colr) → AV → List Box → Prop
  | l, r, bs => r = .c (.own 0 (l).length false) ∧ bs = [⟨(l).map coC, 4, 44, true, false⟩]
def spCloneC : VE.Spec := famSpec spCloneC_A d_lco spCloneC_pre spCloneC_post 0 false
theorem spCloneC_q : spCloneC.flat = false ∧ spCloneC.mt = [] ∧ spCloneC.shut = false ∧ spCloneC.cost = 0 ∧ (∀ a i, spCloneC.pre a i = (i = [] ∧ famPre d_lco spCloneC_A spCloneC_pre a)) ∧ ∀ a i r b, spCloneC.post a i r b = (famPost d_lco spCloneC_post a r b) := ⟨rfl, rfl, rfl, rfl, fun _ _ => rfl, fun _ _ _ _ => rfl⟩
def tb72 : Nat → Option VE.Spec := tabOf []
theorem tb72_ok : TabOK Try.prog rt0 tb72 := tabOf_nil
set_option maxHeartbeats 4000000 in
theorem sat_slices_Clone_impl_Color_impl_Color_0 : Sat Try.prog rt0 72 (wkOut spCloneC) := by
  refine fn_sat hm ttok (tab := tb72) tb72_ok Try.func72 (c := Try.f72.body.getD .skip) (by kernel_rfl) (ts := [.tmp 2]) (by kernel_rfl) Try.ntmps72 (sq := fun _ => true) (by kernel_rfl) ?_
  intro args ins pk hpre0 hpk
  obtain ⟨rfl, hpre0⟩ := hpre0
  obtain ⟨l, rfl, hpre, hdec⟩ := famPre_ex hpre0
  clear hpre0 hdec
  try simp only [spCloneC_pre] at hpre
  replace hpk : pk + 0 ≤ pickLimit := hpk
  refine ⟨Nat.le_of_ble_eq_true rfl, ?_⟩
  simp (config := { maxSteps := 1000000 }) only [go_sem, ↓ifP_true, ↓ifP_false, ↓ifP_not, Nat.reduceLT, Nat.reduceAdd, Nat.reduceBEq, Nat.reduceSub, Nat.reduceLeDiff, Nat.reduceEqDiff, Nat.reduceMul, Int.reduceToNat, Int.reduceEq, Int.reduceLT, Int.reduceLE, Int.reduceAdd, Int.reduceSub, Int.reduceMul, reduceCtorEq, cond_true, cond_false, forall_eq', forall_eq, forall_const, implies_true, if_true, if_false, exists_eq_left', exists_eq', exists_eq, ne_eq, Try.f72, spCloneC_q, spCloneC_A, spCloneC_pre, spCloneC_post]
  repeat' (first | apply And.intro | (intro _) | omega | assumption | with_reducible rfl)
  all_goals (first | ((obtain rfl := nil_ofC (l := l) ‹_› ‹_›; rfl); done))
theorem sat_slices_Clone_impl_Color_impl_Color : Sat Try.prog rt0 72 (wkIn spCloneC) := sat_in (sat_out sat_slices_Clone_impl_Color_impl_Color_0)
def spClipC_A : List Colr → List AV := fun l => [.c (.own 0 l.length false)]
def spClipC_B : List Colr → List Box := fun l => [⟨l.map coC, 4, 44, true, false⟩]
def spClipC_d : List AV → List Box → Option (List Colr)
  | [.c (.own 0 _ false)], [⟨es, _, _, _, _⟩] => decAll coCd es
  | _, _ => none
def spClipC_pre : List Colr → Prop := fun l => l.length ≤ 1000000000
def spClipC_post : List Colr → AV → List Box → Prop := fun l r bs => r = .c (.own 0 (l).length false) ∧ bs = [⟨(l).map coC, 4, 44, true, false⟩]
def spClipC : VE.Spec := famSpecM spClipC_A spClipC_B spClipC_d spClipC_pre spClipC_post 0 false [true] false
theorem spClipC_q : spClipC.flat = false ∧ spClipC.mt = [true] ∧ spClipC.shut = false ∧ spClipC.cost = 0 ∧ (∀ a i, spClipC.pre a i = (famPreM spClipC_d spClipC_A spClipC_B spClipC_pre a i)) ∧ ∀ a i r b, spClipC.post a i r b = (famPostM spClipC_d spClipC_post a i r b) := ⟨rfl, rfl, rfl, rfl, fun _ _ => rfl, fun _ _ _ _ => rfl⟩
def tb71 : Nat → Option VE.Spec := tabOf []
theorem tb71_ok : TabOK Try.prog rt0 tb71 := tabOf_nil
set_option maxHeartbeats 4000000 in
theorem sat_slices_Clip_impl_Color_impl_Color_0 : Sat Try.prog rt0 71 (wkOut spClipC) := by
  refine fn_sat hm ttok (tab := tb71) tb71_ok Try.func71 (c := Try.f71.body.getD .skip) (by kernel_rfl) (ts := [.tmp 2]) (by kernel_rfl) Try.ntmps71 (sq := fun _ => true) (by kernel_rfl) ?_
  intro args ins pk hpre0 hpk
  obtain ⟨l, rfl, rfl, hpre, hdec⟩ := famPreM_ex hpre0
  clear hpre0 hdec
  try simp only [spClipC_pre] at hpre
  replace hpk : pk + 0 ≤ pickLimit := hpk
  refine ⟨Nat.le_of_ble_eq_true rfl, ?_⟩
  simp (config := { maxSteps := 1000000 }) only [go_sem, ↓ifP_true, ↓ifP_false, ↓ifP_not, Nat.reduceLT, Nat.reduceAdd, Nat.reduceBEq, Nat.reduceSub, Nat.reduceLeDiff, Nat.reduceEqDiff, Nat.reduceMul, Int.reduceToNat, Int.reduceEq, Int.reduceLT, Int.reduceLE, Int.reduceAdd, Int.reduceSub, Int.reduceMul, reduceCtorEq, cond_true, cond_false, forall_eq', forall_eq, forall_const, implies_true, if_true, if_false, exists_eq_left', exists_eq', exists_eq, ne_eq, Try.f71, spClipC_q, spClipC_A, spClipC_B, spClipC_d, spClipC_pre, spClipC_post]
  repeat' (first | apply And.intro | (intro _) | omega | assumption | with_reducible rfl)
  all_goals (first | (omega; done))
theorem sat_slices_Clip_impl_Color_impl_Color : Sat Try.prog rt0 71 (wkIn spClipC) := sat_in (sat_out sat_slices_Clip_impl_Color_impl_Color_0)
def tb56 : Nat → Option VE.Spec := tabOf [(72, wkIn spCloneC), (71, wkIn spClipC)]
theorem tb56_72 : tb56 72 = some (wkIn spCloneC) := rfl
theorem tb56_71 : tb56 71 = some (wkIn spClipC) := rfl
theorem tb56_ok : TabOK Try.prog rt0 tb56 := (tabOf_cons (by kernel_rfl) sat_slices_Clone_impl_Color_impl_Color (tabOf_cons (by kernel_rfl) sat_slices_Clip_impl_Color_impl_Color tabOf_nil))
set_option maxHeartbeats 4000000 in
theorem sat_impl_clone_impl_Color_0 : Sat Try.prog rt0 56 (wkOut spCloneC) := by
  refine fn_sat hm ttok (tab := tb56) tb56_ok Try.func56 (c := Try.f56.body.getD .skip) (by kernel_rfl) (ts := [.tmp 2]) (by kernel_rfl) Try.ntmps56 (sq := fun _ => true) (by kernel_rfl) ?_
  intro args ins pk hpre0 hpk
  obtain ⟨rfl, hpre0⟩ := hpre0
  obtain ⟨l, rfl, hpre, hdec⟩ := famPre_ex hpre0
  clear hpre0 hdec
  try simp only [spCloneC_pre] at hpre
  replace hpk : pk + 0 ≤ pickLimit := hpk
  refine ⟨Nat.le_of_ble_eq_true rfl, ?_⟩
  simp (config := { maxSteps := 1000000 }) only [go_sem, ↓ifP_true, ↓ifP_false, ↓ifP_not, Nat.reduceLT, Nat.reduceAdd, Nat.reduceBEq, Nat.reduceSub, Nat.reduceLeDiff, Nat.reduceEqDiff, Nat.reduceMul, Int.reduceToNat, Int.reduceEq, Int.reduceLT, Int.reduceLE, Int.reduceAdd, Int.reduceSub, Int.reduceMul, reduceCtorEq, cond_true, cond_false, forall_eq', forall_eq, forall_const, implies_true, if_true, if_false, exists_eq_left', exists_eq', exists_eq, ne_eq, Try.f56, tb56_72, tb56_71, spCloneC_q, spCloneC_A, spCloneC_pre, spCloneC_post, spClipC_q, spClipC_A, spClipC_B, spClipC_d, spClipC_pre, spClipC_post]
  repeat' (first | apply And.intro | (intro _) | omega | assumption | with_reducible rfl)
  all_goals (first | (omega; done))
theorem sat_impl_clone_impl_Color : Sat Try.prog rt0 56 (wkIn spCloneC) := sat_in (sat_out sat_impl_clone_impl_Color_0)
end Go.Proofs.Ytofelomoieamoaa
