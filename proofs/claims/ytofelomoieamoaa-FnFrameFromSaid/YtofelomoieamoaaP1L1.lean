/- Contracts of functions of the program vectorraster, each proved for all states that fit its description. No conditions. -/
import Derived.Test.YtofelomoieamoaaP1AC
import Derived.Test.YtofelomoieamoaaP1A6
import Derived.Test.YtofelomoieamoaaPP
set_option maxRecDepth 100000
set_option linter.unusedSimpArgs false
set_option linter.unusedVariables false
namespace Go.Proofs.Ytofelomoieamoaa
open Go Go.VE
theorem rn_law {f : Frm} (h : ¬ ((rnF f).length : Int) = 0) : okFF f.w f.h (rnF f) = true ∧ ffF f.w f.h (rnF f) = f := by
  cases hv : vFrm f with
  | false => rw [rn_no hv] at h; exact absurd rfl h
  | true => rw [rn_yes hv]; exact ff_rn hv
theorem rn_law1 {f : Frm} (h : ¬ ((rnF f).length : Int) = 0) (hl : f.px.length ≤ 200) : (ffF f.w f.h (rnF f)).px.length ≤ 1000000000 := by rw [(rn_law h).2]; omega
theorem rn_law0 {f : Frm} (h : ¬ ((rnF f).length : Int) = 0) (h2 : okFF f.w f.h (rnF f) = false) : False := by
  rw [(rn_law h).1] at h2; cases h2
def spLaw_A : (List UInt8) → List AV
  | code => [.c (.sl false (byC code))]
def spLaw_pre : (List UInt8) → Prop
  | code => True
def spLaw_post : (List UInt8) → AV → List Box → Prop
  | code, r, bs => r = B (true) ∧ bs = []
def spLaw : VE.Spec := famSpec spLaw_A d_ly spLaw_pre spLaw_post 100000 false
theorem spLaw_q : spLaw.flat = false ∧ spLaw.mt = [] ∧ spLaw.shut = false ∧ spLaw.cost = 100000 ∧ (∀ a i, spLaw.pre a i = (i = [] ∧ famPre d_ly spLaw_A spLaw_pre a)) ∧ ∀ a i r b, spLaw.post a i r b = (famPost d_ly spLaw_post a r b) := ⟨rfl, rfl, rfl, rfl, fun _ _ => rfl, fun _ _ _ _ => rfl⟩
def tb9 : Nat → Option VE.Spec := tabOf [(22, wkIn spDFrm), (23, wkIn spRuns), (25, wkIn spRuns), (24, wkIn spEqR), (31, wkIn spFrom), (14, wkIn spEqF)]
theorem tb9_22 : tb9 22 = some (wkIn spDFrm) := rfl
theorem tb9_23 : tb9 23 = some (wkIn spRuns) := rfl
theorem tb9_25 : tb9 25 = some (wkIn spRuns) := rfl
theorem tb9_24 : tb9 24 = some (wkIn spEqR) := rfl
theorem tb9_31 : tb9 31 = some (wkIn spFrom) := rfl
theorem tb9_14 : tb9 14 = some (wkIn spEqF) := rfl
theorem tb9_ok : TabOK Try.prog rt0 tb9 := (tabOf_cons (by kernel_rfl) sat_spec_DrawRunsOf (tabOf_cons (by kernel_rfl) sat_impl_RunsOf (tabOf_cons (by kernel_rfl) sat_spec_RunsOf (tabOf_cons (by kernel_rfl) sat_laws_equalRuns (tabOf_cons (by kernel_rfl) sat_impl_FrameFrom (tabOf_cons (by kernel_rfl) sat_laws_equalFrame tabOf_nil))))))
set_option maxHeartbeats 4000000 in
theorem sat_laws_FnRunsOf_0 : Sat Try.prog rt0 9 spLaw := by
  refine fn_sat hm ttok (tab := tb9) tb9_ok Try.func9 (c := Try.f9.body.getD .skip) (by kernel_rfl) (ts := [.tmp 2]) (by kernel_rfl) Try.ntmps9 (sq := fun _ => true) (by kernel_rfl) ?_
  intro args ins pk hpre0 hpk
  obtain ⟨rfl, hpre0⟩ := hpre0
  obtain ⟨code, rfl, hpre, hdec⟩ := famPre_ex hpre0
  clear hpre0 hdec
  try simp only [spLaw_pre] at hpre
  replace hpk : pk + 100000 ≤ pickLimit := hpk
  refine ⟨Nat.le_of_ble_eq_true rfl, ?_⟩
  simp (config := { maxSteps := 1000000 }) only [go_sem, ↓ifP_true, ↓ifP_false, ↓ifP_not, Nat.reduceLT, Nat.reduceAdd, Nat.reduceBEq, Nat.reduceSub, Nat.reduceLeDiff, Nat.reduceEqDiff, Nat.reduceMul, Int.reduceToNat, Int.reduceEq, Int.reduceLT, Int.reduceLE, Int.reduceAdd, Int.reduceSub, Int.reduceMul, reduceCtorEq, cond_true, cond_false, forall_eq', forall_eq, forall_const, implies_true, if_true, if_false, exists_eq_left', exists_eq', exists_eq, ne_eq, Try.f9, tb9_22, tb9_23, tb9_25, tb9_24, tb9_31, tb9_14, spLaw_q, spLaw_A, spLaw_pre, spLaw_post, spDFrm_q, spDFrm_A, spDFrm_pre, spDFrm_post, spRuns_q, spRuns_A, spRuns_pre, spRuns_post, spEqR_q, spEqR_A, spEqR_pre, spEqR_post, spFrom_q, spFrom_A, spFrom_pre, spFrom_post, spEqF_q, spEqF_A, spEqF_pre, spEqF_post]
  repeat' (first | apply And.intro | (intro _) | omega | assumption | with_reducible rfl)
  all_goals (first | (exact (rn_law ‹_›).2; done) | (exact rn_law0 ‹_› ‹_›; done) | (exact rn_law1 ‹_› ‹_›; done) | (exact Nat.le_trans (rnF_len _) (by omega); done) | (omega; done) | (skip; done))
theorem sat_laws_FnRunsOf : Sat Try.prog rt0 9 (wkIn spLaw) := sat_in sat_laws_FnRunsOf_0
end Go.Proofs.Ytofelomoieamoaa
