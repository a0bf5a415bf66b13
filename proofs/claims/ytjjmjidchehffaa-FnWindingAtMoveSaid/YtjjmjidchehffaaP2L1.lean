/- Contracts of functions of the program vectorraster, each proved for all states that fit its description. No conditions. -/
import Derived.Test.YtjjmjidchehffaaPH
set_option maxRecDepth 100000
set_option linter.unusedSimpArgs false
set_option linter.unusedVariables false
namespace Go.Proofs.Ytjjmjidchehffaa
open Go Go.VE
theorem abs_iff (x : Int) : (1000 < if x < 0 then -x else x) ↔ isU x = false := by
  simp only [isU, decide_eq_false_iff_not]; split <;> omega
theorem insN_any (n : Int) : insN n 0 = !decide (n = 0) := by simp [insN]
theorem insN_even (n : Int) : insN n 1 = !decide (n.tmod 2 = 0) := by
  simp only [insN, if_true, ← decide_not, decide_eq_decide]
  exact (tmod2 n).symm
theorem even_any {n : Int} (h : insN n 1 = true) : insN n 0 = true := by
  simp only [insN, if_true, decide_eq_true_eq] at *
  rw [if_neg (by decide)]; simp; omega
theorem isRl0 : isRl 0 = true := rfl
theorem isRl1 : isRl 1 = true := rfl
def tb6 : Nat → Option VE.Spec := tabOf [(22, wkIn spDIA), (23, wkIn spIAt), (24, wkIn spIAt), (25, wkIn spVRings), (26, wkIn spDist), (27, wkIn spWAt)]
theorem tb6_22 : tb6 22 = some (wkIn spDIA) := rfl
theorem tb6_23 : tb6 23 = some (wkIn spIAt) := rfl
theorem tb6_24 : tb6 24 = some (wkIn spIAt) := rfl
theorem tb6_25 : tb6 25 = some (wkIn spVRings) := rfl
theorem tb6_26 : tb6 26 = some (wkIn spDist) := rfl
theorem tb6_27 : tb6 27 = some (wkIn spWAt) := rfl
theorem tb6_ok : TabOK Try.prog rt0 tb6 := (tabOf_cons (by kernel_rfl) sat_spec_DrawInsideAt (tabOf_cons (by kernel_rfl) sat_impl_InsideAt (tabOf_cons (by kernel_rfl) sat_spec_InsideAt (tabOf_cons (by kernel_rfl) sat_impl_ValidRings (tabOf_cons (by kernel_rfl) sat_laws_absolute (tabOf_cons (by kernel_rfl) sat_impl_WindingAt tabOf_nil))))))
set_option maxHeartbeats 4000000 in
theorem sat_laws_FnInsideAt_0 : Sat Try.prog rt0 6 spLaw := by
  refine fn_sat hm ttok (tab := tb6) tb6_ok Try.func6 (c := Try.f6.body.getD .skip) (by kernel_rfl) (ts := [.tmp 2]) (by kernel_rfl) Try.ntmps6 (sq := fun _ => true) (by kernel_rfl) ?_
  intro args ins pk hpre0 hpk
  obtain ⟨rfl, hpre0⟩ := hpre0
  obtain ⟨code, rfl, hpre, hdec⟩ := famPre_ex hpre0
  clear hpre0 hdec
  try simp only [spLaw_pre] at hpre
  replace hpk : pk + 100000 ≤ pickLimit := hpk
  refine ⟨Nat.le_of_ble_eq_true rfl, ?_⟩
  simp (config := { maxSteps := 1000000 }) only [go_sem, ↓ifP_true, ↓ifP_false, ↓ifP_not, Nat.reduceLT, Nat.reduceAdd, Nat.reduceBEq, Nat.reduceSub, Nat.reduceLeDiff, Nat.reduceEqDiff, Nat.reduceMul, Int.reduceToNat, Int.reduceEq, Int.reduceLT, Int.reduceLE, Int.reduceAdd, Int.reduceSub, Int.reduceMul, reduceCtorEq, cond_true, cond_false, forall_eq', forall_eq, forall_const, implies_true, if_true, if_false, exists_eq_left', exists_eq', exists_eq, ne_eq, Try.f6, tb6_22, tb6_23, tb6_24, tb6_25, tb6_26, tb6_27, spLaw_q, spLaw_A, spLaw_pre, spLaw_post, spDIA_q, spDIA_A, spDIA_pre, spDIA_post, spIAt_q, spIAt_A, spIAt_pre, spIAt_post, spVRings_q, spVRings_A, spVRings_pre, spVRings_post, spDist_q, spDist_A, spDist_pre, spDist_post, spWAt_q, spWAt_A, spWAt_pre, spWAt_post]
  repeat' (first | apply And.intro | (intro _) | omega | assumption | with_reducible rfl)
  all_goals (first | ((obtain ⟨_, _, _, _⟩ := (‹okP _› : okP _); dsimp only at *; omega); done) | ((simp_all [abs_iff, isRl0, isRl1, even_any]; done); done) | ((simp_all [abs_iff, isRl0, isRl1, insN_any, insN_even]); done))
theorem sat_laws_FnInsideAt : Sat Try.prog rt0 6 (wkIn spLaw) := sat_in sat_laws_FnInsideAt_0
end Go.Proofs.Ytjjmjidchehffaa
