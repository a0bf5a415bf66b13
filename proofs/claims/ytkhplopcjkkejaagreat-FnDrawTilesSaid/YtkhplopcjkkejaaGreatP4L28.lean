/- Contracts of functions of the program vectorraster, each proved for all states that fit its description. No conditions. -/
import Derived.Test.YtkhplopcjkkejaaGreatPX
import Derived.Test.YtkhplopcjkkejaaGreatPU
set_option maxRecDepth 100000
set_option linter.unusedSimpArgs false
set_option linter.unusedVariables false
namespace Go.Proofs.YtkhplopcjkkejaaGreat
open Go Go.VE
def tb13 : Nat → Option VE.Spec := tabOf [(40, wkIn spDDTs), (41, wkIn spDTs), (42, wkIn spDTs), (36, wkIn spEqF), (17, wkIn spVScn), (43, wkIn spTc), (26, wkIn spEqC), (25, wkIn spDrawS)]
theorem tb13_40 : tb13 40 = some (wkIn spDDTs) := rfl
theorem tb13_41 : tb13 41 = some (wkIn spDTs) := rfl
theorem tb13_42 : tb13 42 = some (wkIn spDTs) := rfl
theorem tb13_36 : tb13 36 = some (wkIn spEqF) := rfl
theorem tb13_17 : tb13 17 = some (wkIn spVScn) := rfl
theorem tb13_43 : tb13 43 = some (wkIn spTc) := rfl
theorem tb13_26 : tb13 26 = some (wkIn spEqC) := rfl
theorem tb13_25 : tb13 25 = some (wkIn spDrawS) := rfl
theorem tb13_ok : TabOK Tryz.prog rt0 tb13 := (tabOf_cons (by kernel_rfl) sat_spec_DrawDrawTiles (tabOf_cons (by kernel_rfl) sat_impl_DrawTiles (tabOf_cons (by kernel_rfl) sat_spec_DrawTiles (tabOf_cons (by kernel_rfl) sat_laws_equalFrame (tabOf_cons (by kernel_rfl) sat_impl_ValidScene (tabOf_cons (by kernel_rfl) sat_impl_TileCount (tabOf_cons (by kernel_rfl) sat_laws_equalColors (tabOf_cons (by kernel_rfl) sat_impl_DrawScene tabOf_nil))))))))
set_option maxHeartbeats 4000000 in
theorem sat_laws_FnDrawTiles_0 : Sat Tryz.prog rt0 13 spLaw := by
  refine fn_sat hm ttok (tab := tb13) tb13_ok Tryz.func13 (c := Tryz.f13.body.getD .skip) (by kernel_rfl) (ts := [.tmp 2]) (by kernel_rfl) Tryz.ntmps13 (sq := fun _ => true) (by kernel_rfl) ?_
  intro args ins pk hpre0 hpk
  obtain ⟨rfl, hpre0⟩ := hpre0
  obtain ⟨code, rfl, hpre, hdec⟩ := famPre_ex hpre0
  clear hpre0 hdec
  try simp only [spLaw_pre] at hpre
  replace hpk : pk + 100000 ≤ pickLimit := hpk
  refine ⟨Nat.le_of_ble_eq_true rfl, ?_⟩
  simp (config := { maxSteps := 1000000 }) only [go_sem, ↓ifP_true, ↓ifP_false, ↓ifP_not, Nat.reduceLT, Nat.reduceAdd, Nat.reduceBEq, Nat.reduceSub, Nat.reduceLeDiff, Nat.reduceEqDiff, Nat.reduceMul, Int.reduceToNat, Int.reduceEq, Int.reduceLT, Int.reduceLE, Int.reduceAdd, Int.reduceSub, Int.reduceMul, reduceCtorEq, cond_true, cond_false, forall_eq', forall_eq, forall_const, implies_true, if_true, if_false, exists_eq_left', exists_eq', exists_eq, ne_eq, Tryz.f13, tb13_40, tb13_41, tb13_42, tb13_36, tb13_17, tb13_43, tb13_26, tb13_25, spLaw_q, spLaw_A, spLaw_pre, spLaw_post, spDDTs_q, spDDTs_A, spDDTs_pre, spDDTs_post, spDTs_q, spDTs_A, spDTs_pre, spDTs_post, spEqF_q, spEqF_A, spEqF_pre, spEqF_post, spVScn_q, spVScn_A, spVScn_pre, spVScn_post, spTc_q, spTc_A, spTc_pre, spTc_post, spEqC_q, spEqC_A, spEqC_pre, spEqC_post, spDrawS_q, spDrawS_A, spDrawS_pre, spDrawS_post]
  repeat' (first | apply And.intro | (intro _) | omega | assumption | with_reducible rfl)
  any_goals
    rename_i s ts hs hts hv
    have ht9 := tcnt_9 s.w s.h
    have htp := tcnt_pos hv
    have hall := allT_ok (L := (code.length : Int)) hv
    refine loopS (α := (List Int) × Int) false [1, 4, 5, 6, 7, 8, 9, 11, 14, 15, 16, 17, 18, 19, 20, 21, 22, 23, 24, 25, 26, 27, 28, 29, 30, 31, 32, 33, 34, 35, 36, 37, 38, 39, 40, 41, 42, 43, 44, 45, 46, 47, 48, 49, 50, 51, 52, 53, 54, 55, 56, 57, 58, 59, 60, 61, 62, 63, 64, 65, 66, 67, 68, 69, 70, 71, 72, 73, 74, 75, 76] (fun σ => [gId (σ.get 9)]) (fun σ x => [(9, .c (.own (gId (σ.get 9)) (x.1).length false)), (11, I x.2)]) (fun σ x => [(gId (σ.get 9), some ⟨(x.1).map intC, 1, 3, true, false⟩)]) (fun (o, t) => 0) (fun σ => (gL intCd σ (σ.get 9), gI (σ.get 11))) (fun σ τ => [(gId (σ.get 9), gId (τ.get 9))]) (fun (o, t) => (-1 ≤ t ∧ t < tcnt s.w s.h) ∧ o = allT (tcnt s.w s.h) code.length (tcnt s.w s.h - 1 - t).toNat) (fun (o, t) => (t + 1).toNat) ⟨by (simp (config := { maxSteps := 1000000 }) only [go_sem, ↓ifP_true, ↓ifP_false, ↓ifP_not, Nat.reduceLT, Nat.reduceAdd, Nat.reduceBEq, Nat.reduceSub, Nat.reduceLeDiff, Nat.reduceEqDiff, Nat.reduceMul, Int.reduceToNat, Int.reduceEq, Int.reduceLT, Int.reduceLE, Int.reduceAdd, Int.reduceSub, Int.reduceMul, reduceCtorEq, cond_true, cond_false, forall_eq', forall_eq, forall_const, implies_true, if_true, if_false, exists_eq_left', exists_eq', exists_eq, ne_eq, Tryz.f13, tb13_40, tb13_41, tb13_42, tb13_36, tb13_17, tb13_43, tb13_26, tb13_25, spLaw_q, spLaw_A, spLaw_pre, spLaw_post, spDDTs_q, spDDTs_A, spDDTs_pre, spDDTs_post, spDTs_q, spDTs_A, spDTs_pre, spDTs_post, spEqF_q, spEqF_A, spEqF_pre, spEqF_post, spVScn_q, spVScn_A, spVScn_pre, spVScn_post, spTc_q, spTc_A, spTc_pre, spTc_post, spEqC_q, spEqC_A, spEqC_pre, spEqC_post, spDrawS_q, spDrawS_A, spDrawS_pre, spDrawS_post]; (repeat' (first | apply And.intro | (intro _) | omega | assumption | with_reducible rfl)); all_goals (first | (rw [show (tcnt s.w s.h - 1 - (tcnt s.w s.h - 1)).toNat = 0 by omega]; rfl) | omega)), ?_⟩
    rintro ⟨o, t⟩ hinv
    try dsimp only at hinv
    simp (config := { maxSteps := 1000000 }) only [go_sem, ↓ifP_true, ↓ifP_false, ↓ifP_not, Nat.reduceLT, Nat.reduceAdd, Nat.reduceBEq, Nat.reduceSub, Nat.reduceLeDiff, Nat.reduceEqDiff, Nat.reduceMul, Int.reduceToNat, Int.reduceEq, Int.reduceLT, Int.reduceLE, Int.reduceAdd, Int.reduceSub, Int.reduceMul, reduceCtorEq, cond_true, cond_false, forall_eq', forall_eq, forall_const, implies_true, if_true, if_false, exists_eq_left', exists_eq', exists_eq, ne_eq, Tryz.f13, tb13_40, tb13_41, tb13_42, tb13_36, tb13_17, tb13_43, tb13_26, tb13_25, spLaw_q, spLaw_A, spLaw_pre, spLaw_post, spDDTs_q, spDDTs_A, spDDTs_pre, spDDTs_post, spDTs_q, spDTs_A, spDTs_pre, spDTs_post, spEqF_q, spEqF_A, spEqF_pre, spEqF_post, spVScn_q, spVScn_A, spVScn_pre, spVScn_post, spTc_q, spTc_A, spTc_pre, spTc_post, spEqC_q, spEqC_A, spEqC_pre, spEqC_post, spDrawS_q, spDrawS_A, spDrawS_pre, spDrawS_post]
    repeat' (first | apply And.intro | (intro _) | omega | assumption | with_reducible rfl)
  all_goals (first | (exact (‹okScn _›).fs; done) | (exact hs.fs; done) | (exact Nat.le_trans (dts_len _ _) (by decide); done) | (exact Nat.le_trans (drawV_len _) (by decide); done) | ((have h9 := tcnt_9 (‹Scn›).w (‹Scn›).h; omega); done) | ((have h9 := allT_bd2 hinv.2; omega); done) | ((rw [allT_bd htp (by omega), hinv.2]; exact allT_step _ _ (by omega)); done) | ((rw [allT_fin hinv.2 (by omega)]; exact hall.2); done) | ((exfalso; rw [allT_fin hinv.2 (by omega)] at *; simp_all; done); done))
theorem sat_laws_FnDrawTiles : Sat Tryz.prog rt0 13 (wkIn spLaw) := sat_in sat_laws_FnDrawTiles_0
end Go.Proofs.YtkhplopcjkkejaaGreat
