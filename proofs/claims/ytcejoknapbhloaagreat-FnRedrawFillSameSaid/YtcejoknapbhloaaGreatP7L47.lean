/- Contracts of functions of the program vectorraster, each proved for all states that fit its description. No conditions. -/
import Derived.Test.YtcejoknapbhloaaGreatP7L46
set_option maxRecDepth 100000
set_option linter.unusedSimpArgs false
set_option linter.unusedVariables false
namespace Go.Proofs.YtcejoknapbhloaaGreat
open Go Go.VE
theorem rp_same {s : Scn} {a : Int} {f g : Fil} (h : okRp s a f = true) (hg : s.fs[a.toNat]? = some g) : okRp s a g = true := by
  obtain ⟨h1, h2, h3, h4⟩ := rp_parts h
  exact rp_of h1 h2 h3 (List.all_eq_true.1 (vScn_parts h1).2.2 g (List.mem_of_getElem? hg))
theorem rp_same2 {s : Scn} {a : Int} {f g : Fil} (h : okRp s a f = true) (hg : s.fs[a.toNat]? = some g) : (rdF s a g).px = drawV s := by
  rw [rd_yes (rp_same h hg), nxt_same hg]
theorem rp_same3 {s : Scn} {a : Int} {f g : Fil} (h : okRp s a f = true) (hg : s.fs[a.toNat]? = some g) (hn : okRp s a g = false) : False := by
  rw [rp_same h hg] at hn; cases hn
def tb5 : Nat → Option VE.Spec := tabOf [(12, wkIn spDDm), (13, wkIn spRd), (14, wkIn spRd), (9, wkIn spEqF), (11, wkIn spDrawS), (10, wkIn spEqC)]
theorem tb5_12 : tb5 12 = some (wkIn spDDm) := rfl
theorem tb5_13 : tb5 13 = some (wkIn spRd) := rfl
theorem tb5_14 : tb5 14 = some (wkIn spRd) := rfl
theorem tb5_9 : tb5 9 = some (wkIn spEqF) := rfl
theorem tb5_11 : tb5 11 = some (wkIn spDrawS) := rfl
theorem tb5_10 : tb5 10 = some (wkIn spEqC) := rfl
theorem tb5_ok : TabOK Tryz.prog rt0 tb5 := (tabOf_cons (by kernel_rfl) sat_spec_DrawRedrawFill (tabOf_cons (by kernel_rfl) sat_impl_RedrawFill (tabOf_cons (by kernel_rfl) sat_spec_RedrawFill (tabOf_cons (by kernel_rfl) sat_laws_equalFrame (tabOf_cons (by kernel_rfl) sat_impl_DrawScene (tabOf_cons (by kernel_rfl) sat_laws_equalColors tabOf_nil))))))
set_option maxHeartbeats 4000000 in
theorem sat_laws_FnRedrawFillSame_0 : Sat Tryz.prog rt0 5 spLaw := by
  refine fn_sat hm ttok (tab := tb5) tb5_ok Tryz.func5 (c := Tryz.f5.body.getD .skip) (by kernel_rfl) (ts := [.tmp 2]) (by kernel_rfl) Tryz.ntmps5 (sq := fun id => !(id == 8)) (by kernel_rfl) ?_
  intro args ins pk hpre0 hpk
  obtain ⟨rfl, hpre0⟩ := hpre0
  obtain ⟨code, rfl, hpre, hdec⟩ := famPre_ex hpre0
  clear hpre0 hdec
  try simp only [spLaw_pre] at hpre
  replace hpk : pk + 100000 ≤ pickLimit := hpk
  refine ⟨Nat.le_of_ble_eq_true rfl, ?_⟩
  simp (config := { maxSteps := 1000000 }) only [go_sem, ↓ifP_true, ↓ifP_false, ↓ifP_not, Nat.reduceLT, Nat.reduceAdd, Nat.reduceBEq, Nat.reduceSub, Nat.reduceLeDiff, Nat.reduceEqDiff, Nat.reduceMul, Int.reduceToNat, Int.reduceEq, Int.reduceLT, Int.reduceLE, Int.reduceAdd, Int.reduceSub, Int.reduceMul, reduceCtorEq, cond_true, cond_false, forall_eq', forall_eq, forall_const, implies_true, if_true, if_false, exists_eq_left', exists_eq', exists_eq, ne_eq, Tryz.f5, tb5_12, tb5_13, tb5_14, tb5_9, tb5_11, tb5_10, spLaw_q, spLaw_A, spLaw_pre, spLaw_post, spDDm_q, spDDm_A, spDDm_pre, spDDm_post, spRd_q, spRd_A, spRd_pre, spRd_post, spEqF_q, spEqF_A, spEqF_pre, spEqF_post, spDrawS_q, spDrawS_A, spDrawS_pre, spDrawS_post, spEqC_q, spEqC_A, spEqC_pre, spEqC_post]
  repeat' (first | apply And.intro | (intro _) | omega | assumption | with_reducible rfl)
  all_goals try (refine drawI (VE.Plan.first 0 (VE.Plan.first 1 (VE.Plan.first 2 (VE.Plan.first 3 (VE.Plan.first 4 (VE.Plan.first 5 (VE.Plan.first 6 (VE.Plan.alt 7 (VE.Plan.first 8 (VE.Plan.first 9 (VE.Plan.first 10 (VE.Plan.alt 11 (VE.Plan.alt 12 (VE.Plan.alt 13 VE.Plan.nil VE.Plan.nil) VE.Plan.nil) VE.Plan.nil)))) (VE.Plan.alt 11 (VE.Plan.alt 7 (VE.Plan.first 8 (VE.Plan.first 9 (VE.Plan.first 10 (VE.Plan.alt 12 (VE.Plan.alt 13 VE.Plan.nil VE.Plan.nil) VE.Plan.nil)))) VE.Plan.nil) VE.Plan.nil))))))))) (by decide +kernel) ?_; simp (config := { maxSteps := 1000000 }) only [go_sem, ↓ifP_true, ↓ifP_false, ↓ifP_not, Nat.reduceLT, Nat.reduceAdd, Nat.reduceBEq, Nat.reduceSub, Nat.reduceLeDiff, Nat.reduceEqDiff, Nat.reduceMul, Int.reduceToNat, Int.reduceEq, Int.reduceLT, Int.reduceLE, Int.reduceAdd, Int.reduceSub, Int.reduceMul, reduceCtorEq, cond_true, cond_false, forall_eq', forall_eq, forall_const, implies_true, if_true, if_false, exists_eq_left', exists_eq', exists_eq, ne_eq, planW, stepW, Tryz.f5, tb5_12, tb5_13, tb5_14, tb5_9, tb5_11, tb5_10, spLaw_q, spLaw_A, spLaw_pre, spLaw_post, spDDm_q, spDDm_A, spDDm_pre, spDDm_post, spRd_q, spRd_A, spRd_pre, spRd_post, spEqF_q, spEqF_A, spEqF_pre, spEqF_post, spDrawS_q, spDrawS_A, spDrawS_pre, spDrawS_post, spEqC_q, spEqC_A, spEqC_pre, spEqC_post]; repeat' (first | apply And.intro | (intro _) | omega | assumption | with_reducible rfl))
  all_goals (first | (exact (‹okScn _›).fs.all _ (List.mem_of_getElem? ‹_›); done) | (exact rp_same2 (by assumption) (by assumption); done) | (exact rp_same3 (by assumption) (by assumption) (by assumption); done) | ((have h9 := rp_parts ‹okRp _ _ _ = true›; have h8 := (‹okScn _›).fs.len; omega); done) | (exact okFs_set2 (‹okScn _›).fs ‹okF _› _; done) | (exact Nat.le_trans (drawV_len _) (by decide); done) | ((rw [rd_yes ‹okRp _ _ _ = true›]; rfl); done) | (exact (‹okScn _›).fs; done) | (exact ‹okF _›; done) | (exact Nat.le_trans (rd_lenF _ _ _) (by decide); done) | (omega; done) | (skip; done))
theorem sat_laws_FnRedrawFillSame : Sat Tryz.prog rt0 5 (wkIn spLaw) := sat_in sat_laws_FnRedrawFillSame_0
end Go.Proofs.YtcejoknapbhloaaGreat
