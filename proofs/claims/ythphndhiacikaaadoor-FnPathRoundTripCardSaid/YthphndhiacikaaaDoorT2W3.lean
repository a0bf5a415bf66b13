/- Contracts of functions of the program vectorraster, each proved for all states that fit its description. No conditions. -/
import Derived.Test.YthphndhiacikaaaDoorT2W1
import Derived.Test.YthphndhiacikaaaDoorT2W2
import Derived.Test.YthphndhiacikaaaDoorT2Z9
import Derived.Test.YthphndhiacikaaaDoorPL
import Derived.Test.YthphndhiacikaaaDoorPH
set_option maxRecDepth 100000
set_option linter.unusedSimpArgs false
set_option linter.unusedVariables false
namespace Go.Proofs.YthphndhiacikaaaDoor
open Go Go.VE
theorem fmtB_le {p : List Verb} : (fmtB p).size ≤ 840 := by
  unfold fmtB
  split
  · rename_i h; rw [mkB_size]; exact fmtL_len h
  · rw [mkB_size]; simp
theorem rt_pp {p : List Verb} (h : vPath p = true) (hl : ¬ (800 : Int) < ((fmtB p).size : Nat)) : pp (tx (fmtB p)) = some p := by
  rw [fmtB_ok h] at *
  rw [tx_mk]
  rw [mkB_size] at hl
  exact pp_fmt h (by omega)
def tb4 : Nat → Option VE.Spec := tabOf [(11, wkIn spDRO), (9, wkIn spFmt), (7, wkIn spFmt), (12, wkIn spVPath), (13, wkIn spPP), (14, wkIn spEqV)]
theorem tb4_11 : tb4 11 = some (wkIn spDRO) := rfl
theorem tb4_9 : tb4 9 = some (wkIn spFmt) := rfl
theorem tb4_7 : tb4 7 = some (wkIn spFmt) := rfl
theorem tb4_12 : tb4 12 = some (wkIn spVPath) := rfl
theorem tb4_13 : tb4 13 = some (wkIn spPP) := rfl
theorem tb4_14 : tb4 14 = some (wkIn spEqV) := rfl
theorem tb4_ok : TabOK Tryd.prog rt0 tb4 := (tabOf_cons (by kernel_rfl) sat_spec_DrawFormatPath (tabOf_cons (by kernel_rfl) sat_impl_FormatPath (tabOf_cons (by kernel_rfl) sat_spec_FormatPath (tabOf_cons (by kernel_rfl) sat_impl_ValidPath (tabOf_cons (by kernel_rfl) sat_impl_ParsePath (tabOf_cons (by kernel_rfl) sat_laws_equalPath tabOf_nil))))))
set_option maxHeartbeats 4000000 in
theorem sat_laws_FnPathRoundTrip_0 : Sat Tryd.prog rt0 4 spLaw := by
  refine fn_sat hm ttok (tab := tb4) tb4_ok Tryd.func4 (c := Tryd.f4.body.getD .skip) (by kernel_rfl) (ts := [.tmp 2]) (by kernel_rfl) Tryd.ntmps4 (sq := fun _ => true) (by kernel_rfl) ?_
  intro args ins pk hpre0 hpk
  obtain ⟨rfl, hpre0⟩ := hpre0
  obtain ⟨code, rfl, hpre, hdec⟩ := famPre_ex hpre0
  clear hpre0 hdec
  try simp only [spLaw_pre] at hpre
  replace hpk : pk + 100000 ≤ pickLimit := hpk
  refine ⟨Nat.le_of_ble_eq_true rfl, ?_⟩
  simp (config := { maxSteps := 1000000 }) only [go_sem, ↓ifP_true, ↓ifP_false, ↓ifP_not, Nat.reduceLT, Nat.reduceAdd, Nat.reduceBEq, Nat.reduceSub, Nat.reduceLeDiff, Nat.reduceEqDiff, Nat.reduceMul, Int.reduceToNat, Int.reduceEq, Int.reduceLT, Int.reduceLE, Int.reduceAdd, Int.reduceSub, Int.reduceMul, reduceCtorEq, cond_true, cond_false, forall_eq', forall_eq, forall_const, implies_true, if_true, if_false, exists_eq_left', exists_eq', exists_eq, ne_eq, Tryd.f4, tb4_11, tb4_9, tb4_7, tb4_12, tb4_13, tb4_14, spLaw_q, spLaw_A, spLaw_pre, spLaw_post, spDRO_q, spDRO_A, spDRO_pre, spDRO_post, spFmt_q, spFmt_A, spFmt_pre, spFmt_post, spVPath_q, spVPath_A, spVPath_pre, spVPath_post, spPP_q, spPP_A, spPP_pre, spPP_post, spEqV_q, spEqV_A, spEqV_pre, spEqV_post]
  repeat' (first | apply And.intro | (intro _) | omega | assumption | with_reducible rfl)
  all_goals (first | (omega; done) | ((have h9 := fmtB_le (p := ‹List Verb›); omega); done) | ((rw [rt_pp ‹_› ‹_›]; simp; omega); done) | ((rw [rt_pp ‹_› ‹_›]; simp); done) | ((simp_all [rt_pp]; done); done) | (skip; done))
theorem sat_laws_FnPathRoundTrip : Sat Tryd.prog rt0 4 (wkIn spLaw) := sat_in sat_laws_FnPathRoundTrip_0
end Go.Proofs.YthphndhiacikaaaDoor
