/- Contracts of functions of the program vectorraster, each proved for all states that fit its description. No conditions. -/
import Derived.Test.YtkhplopcjkkejaaPY
import Derived.Test.YtkhplopcjkkejaaPQ
set_option maxRecDepth 100000
set_option linter.unusedSimpArgs false
set_option linter.unusedVariables false
namespace Go.Proofs.Ytkhplopcjkkejaa
open Go Go.VE
def tb5 : Nat → Option VE.Spec := tabOf [(13, wkIn spVFil), (14, wkIn spFlB)]
theorem tb5_13 : tb5 13 = some (wkIn spVFil) := rfl
theorem tb5_14 : tb5 14 = some (wkIn spFlB) := rfl
theorem tb5_ok : TabOK Try.prog rt0 tb5 := (tabOf_cons (by kernel_rfl) sat_impl_Fill_valid (tabOf_cons (by kernel_rfl) sat_impl_Fill_box tabOf_nil))
set_option maxHeartbeats 4000000 in
theorem sat_impl_FillBox_0 : Sat Try.prog rt0 5 (wkOut spFbV) := by
  refine fn_sat hm ttok (tab := tb5) tb5_ok Try.func5 (c := Try.f5.body.getD .skip) (by kernel_rfl) (ts := [.cell 2 33]) (by kernel_rfl) Try.ntmps5 (sq := fun _ => true) (by kernel_rfl) ?_
  intro args ins pk hpre0 hpk
  obtain ⟨rfl, hpre0⟩ := hpre0
  obtain ⟨f, rfl, hpre, hdec⟩ := famPre_ex hpre0
  clear hpre0 hdec
  try simp only [spFbV_pre] at hpre
  replace hpk : pk + 0 ≤ pickLimit := hpk
  refine ⟨Nat.le_of_ble_eq_true rfl, ?_⟩
  simp (config := { maxSteps := 1000000 }) only [go_sem, ↓ifP_true, ↓ifP_false, ↓ifP_not, Nat.reduceLT, Nat.reduceAdd, Nat.reduceBEq, Nat.reduceSub, Nat.reduceLeDiff, Nat.reduceEqDiff, Nat.reduceMul, Int.reduceToNat, Int.reduceEq, Int.reduceLT, Int.reduceLE, Int.reduceAdd, Int.reduceSub, Int.reduceMul, reduceCtorEq, cond_true, cond_false, forall_eq', forall_eq, forall_const, implies_true, if_true, if_false, exists_eq_left', exists_eq', exists_eq, ne_eq, Try.f5, tb5_13, tb5_14, spFbV_q, spFbV_A, spFbV_pre, spFbV_post, spVFil_q, spVFil_A, spVFil_pre, spVFil_post, spFlB_q, spFlB_A, spFlB_pre, spFlB_post]
  repeat' (first | apply And.intro | (intro _) | omega | assumption | with_reducible rfl)
  all_goals (first | (exact hpre; done) | (exact ⟨hpre, ‹_›⟩; done) | ((rw [fbV, if_pos ‹_›]); done) | ((rw [fbV, ‹vFil f = false›]; rfl); done) | (assumption; done) | (rfl; done))
theorem sat_impl_FillBox : Sat Try.prog rt0 5 (wkIn spFbV) := sat_in (sat_out sat_impl_FillBox_0)
def tb6 : Nat → Option VE.Spec := tabOf [(15, wkIn spVFil), (16, wkIn spFlB)]
theorem tb6_15 : tb6 15 = some (wkIn spVFil) := rfl
theorem tb6_16 : tb6 16 = some (wkIn spFlB) := rfl
theorem tb6_ok : TabOK Try.prog rt0 tb6 := (tabOf_cons (by kernel_rfl) sat_spec_validFill (tabOf_cons (by kernel_rfl) sat_spec_fillBox tabOf_nil))
set_option maxHeartbeats 4000000 in
theorem sat_spec_FillBox_0 : Sat Try.prog rt0 6 (wkOut spFbV) := by
  refine fn_sat hm ttok (tab := tb6) tb6_ok Try.func6 (c := Try.f6.body.getD .skip) (by kernel_rfl) (ts := [.cell 2 33]) (by kernel_rfl) Try.ntmps6 (sq := fun _ => true) (by kernel_rfl) ?_
  intro args ins pk hpre0 hpk
  obtain ⟨rfl, hpre0⟩ := hpre0
  obtain ⟨f, rfl, hpre, hdec⟩ := famPre_ex hpre0
  clear hpre0 hdec
  try simp only [spFbV_pre] at hpre
  replace hpk : pk + 0 ≤ pickLimit := hpk
  refine ⟨Nat.le_of_ble_eq_true rfl, ?_⟩
  simp (config := { maxSteps := 1000000 }) only [go_sem, ↓ifP_true, ↓ifP_false, ↓ifP_not, Nat.reduceLT, Nat.reduceAdd, Nat.reduceBEq, Nat.reduceSub, Nat.reduceLeDiff, Nat.reduceEqDiff, Nat.reduceMul, Int.reduceToNat, Int.reduceEq, Int.reduceLT, Int.reduceLE, Int.reduceAdd, Int.reduceSub, Int.reduceMul, reduceCtorEq, cond_true, cond_false, forall_eq', forall_eq, forall_const, implies_true, if_true, if_false, exists_eq_left', exists_eq', exists_eq, ne_eq, Try.f6, tb6_15, tb6_16, spFbV_q, spFbV_A, spFbV_pre, spFbV_post, spVFil_q, spVFil_A, spVFil_pre, spVFil_post, spFlB_q, spFlB_A, spFlB_pre, spFlB_post]
  repeat' (first | apply And.intro | (intro _) | omega | assumption | with_reducible rfl)
  all_goals (first | (exact hpre; done) | (exact ⟨hpre, ‹_›⟩; done) | ((rw [fbV, if_pos ‹_›]); done) | ((rw [fbV, ‹vFil f = false›]; rfl); done) | (assumption; done) | (rfl; done))
theorem sat_spec_FillBox : Sat Try.prog rt0 6 (wkIn spFbV) := sat_in (sat_out sat_spec_FillBox_0)
def bxHas (b : Bx) (x y : Int) : Bool := vBx b && decide (b.l ≤ x ∧ x ≤ b.r - 1) && decide (b.t ≤ y ∧ y ≤ b.b - 1)
def spBxH_A : Bx × Int × Int → List AV
  | (b, x, y) => [.agg (bxC b), I x, I y]
def spBxH_pre : Bx × Int × Int → Prop
  | (b, x, y) => (-1000000 ≤ b.r ∧ b.r ≤ 1000000) ∧ -1000000 ≤ b.b ∧ b.b ≤ 1000000
def spBxH_post : Bx × Int × Int → AV → List Box → Prop
  | (b, x, y), r, bs => r = B (bxHas b x y) ∧ bs = []
def spBxH : VE.Spec := famSpec spBxH_A d_bx_i_i spBxH_pre spBxH_post 0 true
theorem spBxH_q : spBxH.flat = true ∧ spBxH.mt = [] ∧ spBxH.shut = false ∧ spBxH.cost = 0 ∧ (∀ a i, spBxH.pre a i = (i = [] ∧ famPre d_bx_i_i spBxH_A spBxH_pre a)) ∧ ∀ a i r b, spBxH.post a i r b = (famPost d_bx_i_i spBxH_post a r b) := ⟨rfl, rfl, rfl, rfl, fun _ _ => rfl, fun _ _ _ _ => rfl⟩
def tb9 : Nat → Option VE.Spec := tabOf [(22, wkIn spVBx), (23, wkIn spIn)]
theorem tb9_22 : tb9 22 = some (wkIn spVBx) := rfl
theorem tb9_23 : tb9 23 = some (wkIn spIn) := rfl
theorem tb9_ok : TabOK Try.prog rt0 tb9 := (tabOf_cons (by kernel_rfl) sat_impl_Box_valid (tabOf_cons (by kernel_rfl) sat_impl_in tabOf_nil))
set_option maxHeartbeats 4000000 in
theorem sat_impl_BoxHas_0 : Sat Try.prog rt0 9 (wkOut spBxH) := by
  refine fn_sat hm ttok (tab := tb9) tb9_ok Try.func9 (c := Try.f9.body.getD .skip) (by kernel_rfl) (ts := [.tmp 6]) (by kernel_rfl) Try.ntmps9 (sq := fun _ => true) (by kernel_rfl) ?_
  intro args ins pk hpre0 hpk
  obtain ⟨rfl, hpre0⟩ := hpre0
  obtain ⟨⟨b, x, y⟩, rfl, hpre, hdec⟩ := famPre_ex hpre0
  clear hpre0 hdec
  try simp only [spBxH_pre] at hpre
  replace hpk : pk + 0 ≤ pickLimit := hpk
  refine ⟨Nat.le_of_ble_eq_true rfl, ?_⟩
  simp (config := { maxSteps := 1000000 }) only [go_sem, ↓ifP_true, ↓ifP_false, ↓ifP_not, Nat.reduceLT, Nat.reduceAdd, Nat.reduceBEq, Nat.reduceSub, Nat.reduceLeDiff, Nat.reduceEqDiff, Nat.reduceMul, Int.reduceToNat, Int.reduceEq, Int.reduceLT, Int.reduceLE, Int.reduceAdd, Int.reduceSub, Int.reduceMul, reduceCtorEq, cond_true, cond_false, forall_eq', forall_eq, forall_const, implies_true, if_true, if_false, exists_eq_left', exists_eq', exists_eq, ne_eq, Try.f9, tb9_22, tb9_23, spBxH_q, spBxH_A, spBxH_pre, spBxH_post, spVBx_q, spVBx_A, spVBx_pre, spVBx_post, spIn_q, spIn_A, spIn_pre, spIn_post]
  repeat' (first | apply And.intro | (intro _) | omega | assumption | with_reducible rfl)
  all_goals (first | ((simp [bxHas, *]; done); done) | (simp_all [bxHas]; done) | (grind [bxHas]; done))
theorem sat_impl_BoxHas : Sat Try.prog rt0 9 (wkIn spBxH) := sat_in (sat_out sat_impl_BoxHas_0)
end Go.Proofs.Ytkhplopcjkkejaa
