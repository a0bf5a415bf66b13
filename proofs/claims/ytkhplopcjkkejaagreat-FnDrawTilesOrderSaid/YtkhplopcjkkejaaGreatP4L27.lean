/- Contracts of functions of the program vectorraster, each proved for all states that fit its description. No conditions. -/
import Derived.Test.YtkhplopcjkkejaaGreatPX
set_option maxRecDepth 100000
set_option linter.unusedSimpArgs false
set_option linter.unusedVariables false
namespace Go.Proofs.YtkhplopcjkkejaaGreat
open Go Go.VE
def tb11 : Nat → Option VE.Spec := tabOf [(40, wkIn spDDTs), (41, wkIn spDTs), (42, wkIn spDTs), (36, wkIn spEqF)]
theorem tb11_40 : tb11 40 = some (wkIn spDDTs) := rfl
theorem tb11_41 : tb11 41 = some (wkIn spDTs) := rfl
theorem tb11_42 : tb11 42 = some (wkIn spDTs) := rfl
theorem tb11_36 : tb11 36 = some (wkIn spEqF) := rfl
theorem tb11_ok : TabOK Tryz.prog rt0 tb11 := (tabOf_cons (by kernel_rfl) sat_spec_DrawDrawTiles (tabOf_cons (by kernel_rfl) sat_impl_DrawTiles (tabOf_cons (by kernel_rfl) sat_spec_DrawTiles (tabOf_cons (by kernel_rfl) sat_laws_equalFrame tabOf_nil))))
set_option maxHeartbeats 4000000 in
theorem sat_laws_FnDrawTilesOrder_0 : Sat Tryz.prog rt0 11 spLaw := by
  refine fn_sat hm ttok (tab := tb11) tb11_ok Tryz.func11 (c := Tryz.f11.body.getD .skip) (by kernel_rfl) (ts := [.tmp 2]) (by kernel_rfl) Tryz.ntmps11 (sq := fun _ => true) (by kernel_rfl) ?_
  intro args ins pk hpre0 hpk
  obtain ⟨rfl, hpre0⟩ := hpre0
  obtain ⟨code, rfl, hpre, hdec⟩ := famPre_ex hpre0
  clear hpre0 hdec
  try simp only [spLaw_pre] at hpre
  replace hpk : pk + 100000 ≤ pickLimit := hpk
  refine ⟨Nat.le_of_ble_eq_true rfl, ?_⟩
  simp (config := { maxSteps := 1000000 }) only [go_sem, ↓ifP_true, ↓ifP_false, ↓ifP_not, Nat.reduceLT, Nat.reduceAdd, Nat.reduceBEq, Nat.reduceSub, Nat.reduceLeDiff, Nat.reduceEqDiff, Nat.reduceMul, Int.reduceToNat, Int.reduceEq, Int.reduceLT, Int.reduceLE, Int.reduceAdd, Int.reduceSub, Int.reduceMul, reduceCtorEq, cond_true, cond_false, forall_eq', forall_eq, forall_const, implies_true, if_true, if_false, exists_eq_left', exists_eq', exists_eq, ne_eq, Tryz.f11, tb11_40, tb11_41, tb11_42, tb11_36, spLaw_q, spLaw_A, spLaw_pre, spLaw_post, spDDTs_q, spDDTs_A, spDDTs_pre, spDDTs_post, spDTs_q, spDTs_A, spDTs_pre, spDTs_post, spEqF_q, spEqF_A, spEqF_pre, spEqF_post]
  repeat' (first | apply And.intro | (intro _) | omega | assumption | with_reducible rfl)
  any_goals
    rename_i s ts hs hts hok
    have hbk := dts_back hok
    refine loopS (α := (List Int) × Int) false [0, 1, 6, 7, 8, 9, 10, 13, 14, 15, 16, 17, 18, 19, 20, 21, 22, 23, 24, 25, 26, 27, 28, 29, 30, 31, 32, 33, 34, 35, 36, 37, 38, 39, 40, 41, 42, 43, 44, 45, 46, 47, 48, 49, 50, 51, 52, 53, 54, 55, 56, 57, 58, 59, 60, 61, 62, 63, 64, 65, 66, 67, 68] (fun σ => [gId (σ.get 9)]) (fun σ x => [(9, .c (.own (gId (σ.get 9)) (x.1).length false)), (10, I x.2)]) (fun σ x => [(gId (σ.get 9), some ⟨(x.1).map intC, 1, 3, true, false⟩)]) (fun (o, i) => 0) (fun σ => (gL intCd σ (σ.get 9), gI (σ.get 10))) (fun σ τ => [(gId (σ.get 9), gId (τ.get 9))]) (fun (o, i) => (-1 ≤ i ∧ i < ts.length) ∧ o = (ts.drop (i + 1).toNat).reverse) (fun (o, i) => (i + 1).toNat) ⟨by (simp (config := { maxSteps := 1000000 }) only [go_sem, ↓ifP_true, ↓ifP_false, ↓ifP_not, Nat.reduceLT, Nat.reduceAdd, Nat.reduceBEq, Nat.reduceSub, Nat.reduceLeDiff, Nat.reduceEqDiff, Nat.reduceMul, Int.reduceToNat, Int.reduceEq, Int.reduceLT, Int.reduceLE, Int.reduceAdd, Int.reduceSub, Int.reduceMul, reduceCtorEq, cond_true, cond_false, forall_eq', forall_eq, forall_const, implies_true, if_true, if_false, exists_eq_left', exists_eq', exists_eq, ne_eq, Tryz.f11, tb11_40, tb11_41, tb11_42, tb11_36, spLaw_q, spLaw_A, spLaw_pre, spLaw_post, spDDTs_q, spDDTs_A, spDDTs_pre, spDDTs_post, spDTs_q, spDTs_A, spDTs_pre, spDTs_post, spEqF_q, spEqF_A, spEqF_pre, spEqF_post]; (repeat' (first | apply And.intro | (intro _) | omega | assumption | with_reducible rfl)); all_goals (first | (rw [show ((ts.length : Int) - 1 + 1).toNat = ts.length by omega]; simp))), ?_⟩
    rintro ⟨o, i⟩ hinv
    try dsimp only at hinv
    simp (config := { maxSteps := 1000000 }) only [go_sem, ↓ifP_true, ↓ifP_false, ↓ifP_not, Nat.reduceLT, Nat.reduceAdd, Nat.reduceBEq, Nat.reduceSub, Nat.reduceLeDiff, Nat.reduceEqDiff, Nat.reduceMul, Int.reduceToNat, Int.reduceEq, Int.reduceLT, Int.reduceLE, Int.reduceAdd, Int.reduceSub, Int.reduceMul, reduceCtorEq, cond_true, cond_false, forall_eq', forall_eq, forall_const, implies_true, if_true, if_false, exists_eq_left', exists_eq', exists_eq, ne_eq, Tryz.f11, tb11_40, tb11_41, tb11_42, tb11_36, spLaw_q, spLaw_A, spLaw_pre, spLaw_post, spDDTs_q, spDDTs_A, spDDTs_pre, spDDTs_post, spDTs_q, spDTs_A, spDTs_pre, spDTs_post, spEqF_q, spEqF_A, spEqF_pre, spEqF_post]
    repeat' (first | apply And.intro | (intro _) | omega | assumption | with_reducible rfl)
  all_goals (first | (exact (‹okScn _›).fs; done) | (exact hs.fs; done) | (exact Nat.le_trans (dts_len _ _) (by decide); done) | ((have h9 := back_ln hinv.2; omega); done) | (exact back_st hinv.2 ‹_› ‹ts[i.toNat]? = some _›; done) | ((rw [back_fin hinv.2 (by omega)]; exact hbk.2); done) | ((rename_i hq; rw [back_fin hinv.2 (by omega), hbk.1] at hq; cases hq); done))
theorem sat_laws_FnDrawTilesOrder : Sat Tryz.prog rt0 11 (wkIn spLaw) := sat_in sat_laws_FnDrawTilesOrder_0
end Go.Proofs.YtkhplopcjkkejaaGreat
