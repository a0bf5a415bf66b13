/- Contracts of functions of the program vectorraster, each proved for all states that fit its description. No conditions. -/
import Derived.Test.YtofelomoieamoaaP1AD
import Derived.Test.YtofelomoieamoaaP1L1
set_option maxRecDepth 100000
set_option linter.unusedSimpArgs false
set_option linter.unusedVariables false
namespace Go.Proofs.Ytofelomoieamoaa
open Go Go.VE
theorem rn_lawF {w h : Int} {R : List Rn} (x : okFF w h R = true) : rnF (ffF w h R) = R ∧ (ffF w h R).w = w ∧ (ffF w h R).h = h := ⟨rn_ff x, by rw [ff_yes x], by rw [ff_yes x]⟩
theorem ff_plen (w h : Int) (R : List Rn) : (ffF w h R).px.length ≤ 200 := by
  unfold ffF
  split
  · rename_i x
    have h1 := (ff_parts x).2.2.2
    have h2 := wh_bd (ff_parts x).2.2.1
    dsimp only; omega
  · simp
def tb10 : Nat → Option VE.Spec := tabOf [(32, wkIn spDFF), (31, wkIn spFrom), (33, wkIn spFrom), (14, wkIn spEqF), (23, wkIn spRuns), (24, wkIn spEqR)]
theorem tb10_32 : tb10 32 = some (wkIn spDFF) := rfl
theorem tb10_31 : tb10 31 = some (wkIn spFrom) := rfl
theorem tb10_33 : tb10 33 = some (wkIn spFrom) := rfl
theorem tb10_14 : tb10 14 = some (wkIn spEqF) := rfl
theorem tb10_23 : tb10 23 = some (wkIn spRuns) := rfl
theorem tb10_24 : tb10 24 = some (wkIn spEqR) := rfl
theorem tb10_ok : TabOK Try.prog rt0 tb10 := (tabOf_cons (by kernel_rfl) sat_spec_DrawFrameFrom (tabOf_cons (by kernel_rfl) sat_impl_FrameFrom (tabOf_cons (by kernel_rfl) sat_spec_FrameFrom (tabOf_cons (by kernel_rfl) sat_laws_equalFrame (tabOf_cons (by kernel_rfl) sat_impl_RunsOf (tabOf_cons (by kernel_rfl) sat_laws_equalRuns tabOf_nil))))))
set_option maxHeartbeats 4000000 in
theorem sat_laws_FnFrameFrom_0 : Sat Try.prog rt0 10 spLaw := by
  refine fn_sat hm ttok (tab := tb10) tb10_ok Try.func10 (c := Try.f10.body.getD .skip) (by kernel_rfl) (ts := [.tmp 2]) (by kernel_rfl) Try.ntmps10 (sq := fun _ => true) (by kernel_rfl) ?_
  intro args ins pk hpre0 hpk
  obtain ⟨rfl, hpre0⟩ := hpre0
  obtain ⟨code, rfl, hpre, hdec⟩ := famPre_ex hpre0
  clear hpre0 hdec
  try simp only [spLaw_pre] at hpre
  replace hpk : pk + 100000 ≤ pickLimit := hpk
  refine ⟨Nat.le_of_ble_eq_true rfl, ?_⟩
  simp (config := { maxSteps := 1000000 }) only [go_sem, ↓ifP_true, ↓ifP_false, ↓ifP_not, Nat.reduceLT, Nat.reduceAdd, Nat.reduceBEq, Nat.reduceSub, Nat.reduceLeDiff, Nat.reduceEqDiff, Nat.reduceMul, Int.reduceToNat, Int.reduceEq, Int.reduceLT, Int.reduceLE, Int.reduceAdd, Int.reduceSub, Int.reduceMul, reduceCtorEq, cond_true, cond_false, forall_eq', forall_eq, forall_const, implies_true, if_true, if_false, exists_eq_left', exists_eq', exists_eq, ne_eq, Try.f10, tb10_32, tb10_31, tb10_33, tb10_14, tb10_23, tb10_24, spLaw_q, spLaw_A, spLaw_pre, spLaw_post, spDFF_q, spDFF_A, spDFF_pre, spDFF_post, spFrom_q, spFrom_A, spFrom_pre, spFrom_post, spEqF_q, spEqF_A, spEqF_pre, spEqF_post, spRuns_q, spRuns_A, spRuns_pre, spRuns_post, spEqR_q, spEqR_A, spEqR_pre, spEqR_post]
  repeat' (first | apply And.intro | (intro _) | omega | assumption | with_reducible rfl)
  all_goals (first | (exact absurd (rn_lawF ‹_›).1 ‹_›; done) | (exact absurd (rn_lawF ‹_›).2.1 ‹_›; done) | (exact absurd (rn_lawF ‹_›).2.2 ‹_›; done) | (exact (rn_lawF ‹_›).1; done) | (exact (rn_lawF ‹_›).2.1; done) | (exact (rn_lawF ‹_›).2.2; done) | (exact Nat.le_trans (ff_plen _ _ _) (by decide); done) | ((rw [(rn_lawF ‹_›).1]; omega); done) | (exact Nat.le_trans (rnF_len2 (ff_plen _ _ _)) (by decide); done) | (omega; done) | (skip; done))
theorem sat_laws_FnFrameFrom : Sat Try.prog rt0 10 (wkIn spLaw) := sat_in sat_laws_FnFrameFrom_0
end Go.Proofs.Ytofelomoieamoaa
