/- Contracts of functions of the program vectorraster, each proved for all states that fit its description. No conditions. -/
import Derived.Test.YtofelomoieamoaaQ1X3
import Derived.Test.YtofelomoieamoaaQ1X1
import Derived.Test.YtofelomoieamoaaQ1A6
import Derived.Test.YtofelomoieamoaaKK
set_option maxRecDepth 100000
set_option linter.unusedSimpArgs false
set_option linter.unusedVariables false
namespace Go.Proofs.Ytofelomoieamoaa
open Go Go.VE
theorem rnF_len (f : Frm) : (rnF f).length ≤ f.px.length := by
  unfold rnF
  split
  · exact rF_len _
  · simp
theorem mkR_self (k : Int) (n : Nat) : mkR k n = mkR k (mkR k n).length := by rw [mkR_len]
theorem mkC_self (k : Int) (n : Nat) : mkC k n = mkC k (mkC k n).length := by rw [mkC_len]
def spLawF_A : Frm → List AV
  | f => [.agg (frC f)]
def spLawF_pre : Frm → Prop
  | f => f.px.length ≤ 9223372036854775807
def spLawF_post : Frm → AV → List Box → Prop
  | f, r, bs => r = B (true) ∧ bs = []
def spLawF : VE.Spec := famSpec spLawF_A d_fr spLawF_pre spLawF_post 0 true
theorem spLawF_q : spLawF.flat = true ∧ spLawF.mt = [] ∧ spLawF.shut = false ∧ spLawF.cost = 0 ∧ (∀ a i, spLawF.pre a i = (i = [] ∧ famPre d_fr spLawF_A spLawF_pre a)) ∧ ∀ a i r b, spLawF.post a i r b = (famPost d_fr spLawF_post a r b) := ⟨rfl, rfl, rfl, rfl, fun _ _ => rfl, fun _ _ _ _ => rfl⟩
def tb4 : Nat → Option VE.Spec := tabOf [(18, wkIn spSzF), (20, wkIn spToF), (19, wkIn spCount), (17, wkIn spCount), (21, wkIn spEqFr)]
theorem tb4_18 : tb4 18 = some (wkIn spSzF) := rfl
theorem tb4_20 : tb4 20 = some (wkIn spToF) := rfl
theorem tb4_19 : tb4 19 = some (wkIn spCount) := rfl
theorem tb4_17 : tb4 17 = some (wkIn spCount) := rfl
theorem tb4_21 : tb4 21 = some (wkIn spEqFr) := rfl
theorem tb4_ok : TabOK Try.prog rt0 tb4 := (tabOf_cons (by kernel_rfl) sat_laws_szFrame (tabOf_cons (by kernel_rfl) sat_laws_toFrame (tabOf_cons (by kernel_rfl) sat_spec_ColorCount (tabOf_cons (by kernel_rfl) sat_impl_ColorCount (tabOf_cons (by kernel_rfl) sat_laws_eqFrame tabOf_nil)))))
set_option maxHeartbeats 4000000 in
theorem sat_laws_FnExactColorCount_0 : Sat Try.prog rt0 4 spLawF := by
  refine fn_sat hm ttok (tab := tb4) tb4_ok Try.func4 (c := Try.f4.body.getD .skip) (by kernel_rfl) (ts := [.tmp 2]) (by kernel_rfl) Try.ntmps4 (sq := fun _ => true) (by kernel_rfl) ?_
  intro args ins pk hpre0 hpk
  obtain ⟨rfl, hpre0⟩ := hpre0
  obtain ⟨f, rfl, hpre, hdec⟩ := famPre_ex hpre0
  clear hpre0 hdec
  try simp only [spLawF_pre] at hpre
  replace hpk : pk + 0 ≤ pickLimit := hpk
  refine ⟨Nat.le_of_ble_eq_true rfl, ?_⟩
  simp (config := { maxSteps := 1000000 }) only [go_sem, ↓ifP_true, ↓ifP_false, ↓ifP_not, Nat.reduceLT, Nat.reduceAdd, Nat.reduceBEq, Nat.reduceSub, Nat.reduceLeDiff, Nat.reduceEqDiff, Nat.reduceMul, Int.reduceToNat, Int.reduceEq, Int.reduceLT, Int.reduceLE, Int.reduceAdd, Int.reduceSub, Int.reduceMul, reduceCtorEq, cond_true, cond_false, forall_eq', forall_eq, forall_const, implies_true, if_true, if_false, exists_eq_left', exists_eq', exists_eq, ne_eq, Try.f4, tb4_18, tb4_20, tb4_19, tb4_17, tb4_21, spLawF_q, spLawF_A, spLawF_pre, spLawF_post, spSzF_q, spSzF_A, spSzF_pre, spSzF_post, spToF_q, spToF_A, spToF_pre, spToF_post, spCount_q, spCount_A, spCount_pre, spCount_post, spEqFr_q, spEqFr_A, spEqFr_pre, spEqFr_post]
  repeat' (first | apply And.intro | (intro _) | omega | assumption | with_reducible rfl)
  all_goals (first | ((have h9 := szL_bd f.px.length (left := 1048576) (by omega); have h8 := rnF_len f; (try (show (rnF f).length ≤ _)); (try simp only [mkC_len, mkR_len]); omega); done) | (simp_all; done) | (skip; done))
theorem sat_laws_FnExactColorCount : Sat Try.prog rt0 4 (wkIn spLawF) := sat_in sat_laws_FnExactColorCount_0
end Go.Proofs.Ytofelomoieamoaa
