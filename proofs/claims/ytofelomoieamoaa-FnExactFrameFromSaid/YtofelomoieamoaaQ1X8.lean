/- Contracts of functions of the program vectorraster, each proved for all states that fit its description. No conditions. -/
import Derived.Test.YtofelomoieamoaaQ1X7
import Derived.Test.YtofelomoieamoaaQ1X3
import Derived.Test.YtofelomoieamoaaQ1A6
import Derived.Test.YtofelomoieamoaaKK
set_option maxRecDepth 100000
set_option linter.unusedSimpArgs false
set_option linter.unusedVariables false
namespace Go.Proofs.Ytofelomoieamoaa
open Go Go.VE
theorem ff_plen (w h : Int) (R : List Rn) : (ffF w h R).px.length ≤ 200 := by
  unfold ffF
  split
  · rename_i x
    have h1 := (ff_parts x).2.2.2
    have h2 := wh_bd (ff_parts x).2.2.1
    dsimp only; omega
  · simp
theorem mkC_self (k : Int) (n : Nat) : mkC k n = mkC k (mkC k n).length := by rw [mkC_len]
def spLawFF_A : Int × Int × (List Rn) → List AV
  | (w, h, R) => [I w, I h, .c (.sl false (R.map rnC))]
def spLawFF_pre : Int × Int × (List Rn) → Prop
  | (w, h, R) => R.length ≤ 9223372036854775807
def spLawFF_post : Int × Int × (List Rn) → AV → List Box → Prop
  | (w, h, R), r, bs => r = B (true) ∧ bs = []
def spLawFF : VE.Spec := famSpec spLawFF_A d_i_i_lrn spLawFF_pre spLawFF_post 0 true
theorem spLawFF_q : spLawFF.flat = true ∧ spLawFF.mt = [] ∧ spLawFF.shut = false ∧ spLawFF.cost = 0 ∧ (∀ a i, spLawFF.pre a i = (i = [] ∧ famPre d_i_i_lrn spLawFF_A spLawFF_pre a)) ∧ ∀ a i r b, spLawFF.post a i r b = (famPost d_i_i_lrn spLawFF_post a r b) := ⟨rfl, rfl, rfl, rfl, fun _ _ => rfl, fun _ _ _ _ => rfl⟩
def tb11 : Nat → Option VE.Spec := tabOf [(34, wkIn spSzR), (35, wkIn spToRL), (33, wkIn spFrom), (31, wkIn spFromO), (27, wkIn spEqRs2), (21, wkIn spEqFr), (28, wkIn spMkF), (29, wkIn spMkR), (36, wkIn spHeF)]
theorem tb11_34 : tb11 34 = some (wkIn spSzR) := rfl
theorem tb11_35 : tb11 35 = some (wkIn spToRL) := rfl
theorem tb11_33 : tb11 33 = some (wkIn spFrom) := rfl
theorem tb11_31 : tb11 31 = some (wkIn spFromO) := rfl
theorem tb11_27 : tb11 27 = some (wkIn spEqRs2) := rfl
theorem tb11_21 : tb11 21 = some (wkIn spEqFr) := rfl
theorem tb11_28 : tb11 28 = some (wkIn spMkF) := rfl
theorem tb11_29 : tb11 29 = some (wkIn spMkR) := rfl
theorem tb11_36 : tb11 36 = some (wkIn spHeF) := rfl
theorem tb11_ok : TabOK Try.prog rt0 tb11 := (tabOf_cons (by kernel_rfl) sat_laws_szRunS (tabOf_cons (by kernel_rfl) sat_laws_toRunS (tabOf_cons (by kernel_rfl) sat_spec_FrameFrom (tabOf_cons (by kernel_rfl) satFromO (tabOf_cons (by kernel_rfl) sat_laws_eqRunS (tabOf_cons (by kernel_rfl) sat_laws_eqFrame (tabOf_cons (by kernel_rfl) sat_laws_markFrame (tabOf_cons (by kernel_rfl) sat_laws_markRunS (tabOf_cons (by kernel_rfl) sat_laws_heldFrame tabOf_nil)))))))))
set_option maxHeartbeats 4000000 in
theorem sat_laws_FnExactFrameFrom_0 : Sat Try.prog rt0 11 spLawFF := by
  refine fn_sat hm ttok (tab := tb11) tb11_ok Try.func11 (c := Try.f11.body.getD .skip) (by kernel_rfl) (ts := [.tmp 6]) (by kernel_rfl) Try.ntmps11 (sq := fun _ => true) (by kernel_rfl) ?_
  intro args ins pk hpre0 hpk
  obtain ⟨rfl, hpre0⟩ := hpre0
  obtain ⟨⟨w, h, R⟩, rfl, hpre, hdec⟩ := famPre_ex hpre0
  clear hpre0 hdec
  try simp only [spLawFF_pre] at hpre
  replace hpk : pk + 0 ≤ pickLimit := hpk
  refine ⟨Nat.le_of_ble_eq_true rfl, ?_⟩
  simp (config := { maxSteps := 1000000 }) only [go_sem, ↓ifP_true, ↓ifP_false, ↓ifP_not, Nat.reduceLT, Nat.reduceAdd, Nat.reduceBEq, Nat.reduceSub, Nat.reduceLeDiff, Nat.reduceEqDiff, Nat.reduceMul, Int.reduceToNat, Int.reduceEq, Int.reduceLT, Int.reduceLE, Int.reduceAdd, Int.reduceSub, Int.reduceMul, reduceCtorEq, cond_true, cond_false, forall_eq', forall_eq, forall_const, implies_true, if_true, if_false, exists_eq_left', exists_eq', exists_eq, ne_eq, Try.f11, tb11_34, tb11_35, tb11_33, tb11_31, tb11_27, tb11_21, tb11_28, tb11_29, tb11_36, spLawFF_q, spLawFF_A, spLawFF_pre, spLawFF_post, spSzR_q, spSzR_A, spSzR_pre, spSzR_post, spToRL_q, spToRL_A, spToRL_pre, spToRL_post, spFrom_q, spFrom_A, spFrom_pre, spFrom_post, spFromO_q, spFromO_A, spFromO_pre, spFromO_post, spEqRs2_q, spEqRs2_A, spEqRs2_pre, spEqRs2_post, spEqFr_q, spEqFr_A, spEqFr_pre, spEqFr_post, spMkF_q, spMkF_A, spMkF_B, spMkF_d, spMkF_pre, spMkF_post, spMkR_q, spMkR_A, spMkR_B, spMkR_d, spMkR_pre, spMkR_post, spHeF_q, spHeF_A, spHeF_pre, spHeF_post]
  repeat' (first | apply And.intro | (intro _) | omega | assumption | with_reducible rfl)
  all_goals (first | ((have h9 := szL_bd R.length (left := 1048576) (by omega); have h8 := ff_plen w h R; omega); done) | ((have h9 := szL_bd R.length (left := 1048576) (by omega); have h8 := ff_plen w h R; simp only [mkC_len, mkR_len]; omega); done) | (exact mkC_self _ _; done) | (exact (mkC_len _ _).symm; done) | ((simp only [mkC_len, not_true_eq_false] at *; done); done) | ((simp_all; done); done) | (exact absurd (by rw [mkC_len]) ‹¬ (_ : Int) = _›; done) | (skip; done))
theorem sat_laws_FnExactFrameFrom : Sat Try.prog rt0 11 (wkIn spLawFF) := sat_in sat_laws_FnExactFrameFrom_0
end Go.Proofs.Ytofelomoieamoaa
