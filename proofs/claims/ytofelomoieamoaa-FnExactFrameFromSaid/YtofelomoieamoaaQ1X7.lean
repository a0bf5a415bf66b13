/- Contracts of functions of the program vectorraster, each proved for all states that fit its description. No conditions. -/
import Derived.Test.YtofelomoieamoaaQ1AB
import Derived.Test.YtofelomoieamoaaQ1A8
import Derived.Test.YtofelomoieamoaaQ1A9
import Derived.Test.YtofelomoieamoaaQ1AA
import Derived.Test.YtofelomoieamoaaW37
import Derived.Test.YtofelomoieamoaaW39
import Derived.Test.YtofelomoieamoaaKK
set_option maxRecDepth 100000
set_option linter.unusedSimpArgs false
set_option linter.unusedVariables false
namespace Go.Proofs.Ytofelomoieamoaa
open Go Go.VE
theorem rnF_len (f : Frm) : (rnF f).length ≤ f.px.length := by
  unfold rnF
  split
  · exact rF_len _
  · simp
theorem ff_s {R : List Rn} {i : Int} {r : Rn} {o : List Colr} (h0 : 0 ≤ i) (hk : R[i.toNat]? = some r) (ho : o = rX (R.take i.toNat)) : o ++ List.replicate r.m.toNat r.c = rX (R.take (i + 1).toNat) := by
  rw [show (i + 1).toNat = i.toNat + 1 by omega, rX_take hk, ho]
theorem ff_x1 {w h : Int} {R : List Rn} {i : Int} {r : Rn} {o : List Colr} (hk : R[i.toNat]? = some r) (ho : o = rX (R.take i.toNat)) (hb : ¬ (1 ≤ r.m ∧ r.m ≤ 144 - (o.length : Int))) : okFF w h R = false := ff_n1 hk (by rw [← ho]; exact hb)
theorem ff_x7 {w h : Int} {R : List Rn} {p : List Colr} {i : Int} (hi : ¬ i < (R.length : Int)) (hp : p = rX (R.take i.toNat)) (hv : vFrm ⟨w, h, p⟩ = true) (hb : ¬ rnF ⟨w, h, p⟩ = R) : okFF w h R = false := by
  rw [ff_e hi hp] at hv hb; exact ff_n7 hv hb
theorem ff_y7 {w h : Int} {R : List Rn} {p : List Colr} {i : Int} (hi : ¬ i < (R.length : Int)) (hp : p = rX (R.take i.toNat)) (hv : vFrm ⟨w, h, p⟩ = true) (hb : rnF ⟨w, h, p⟩ = R) : okFF w h R = true ∧ ffF w h R = ⟨w, h, p⟩ := by
  have e := ff_e hi hp
  subst e
  have := ff_y1 hv hb
  exact ⟨this, ff_yes this⟩
def ffC (w h : Int) (R : List Rn) : List C := if okFF w h R = true then [C.v (.int .i64 w), C.v (.int .i64 h), C.own 0 (rX R).length false] else [C.v (.int .i64 0), C.v (.int .i64 0), C.sl true []]
def ffB (w h : Int) (R : List Rn) : List Box := if okFF w h R = true then [⟨(rX R).map coC, 4, 44, true, false⟩] else []
theorem ffC_y {w h : Int} {R : List Rn} (x : okFF w h R = true) : ffC w h R = [C.v (.int .i64 w), C.v (.int .i64 h), C.own 0 (rX R).length false] := if_pos x
theorem ffC_n {w h : Int} {R : List Rn} (x : okFF w h R = false) : ffC w h R = [C.v (.int .i64 0), C.v (.int .i64 0), C.sl true []] := if_neg (by rw [x]; decide)
theorem ffB_y {w h : Int} {R : List Rn} (x : okFF w h R = true) : ffB w h R = [⟨(rX R).map coC, 4, 44, true, false⟩] := if_pos x
theorem ffB_n {w h : Int} {R : List Rn} (x : okFF w h R = false) : ffB w h R = [] := if_neg (by rw [x]; decide)
def spFrom0_A : Int × Int × (List Rn) → List AV
  | (w, h, R) => [I w, I h, .c (.sl false (R.map rnC))]
def spFrom0_pre : Int × Int × (List Rn) → Prop
  | (w, h, R) => R.length ≤ 2000000
def spFrom0_post : Int × Int × (List Rn) → AV → List Box → Prop
  | (w, h, R), r, bs => r = .tup [.agg (ffC w h R), B (okFF w h R)] ∧ bs = ffB w h R
def spFrom0 : VE.Spec := famSpec spFrom0_A d_i_i_lrn spFrom0_pre spFrom0_post 0 true
theorem spFrom0_q : spFrom0.flat = true ∧ spFrom0.mt = [] ∧ spFrom0.shut = false ∧ spFrom0.cost = 0 ∧ (∀ a i, spFrom0.pre a i = (i = [] ∧ famPre d_i_i_lrn spFrom0_A spFrom0_pre a)) ∧ ∀ a i r b, spFrom0.post a i r b = (famPost d_i_i_lrn spFrom0_post a r b) := ⟨rfl, rfl, rfl, rfl, fun _ _ => rfl, fun _ _ _ _ => rfl⟩
def tb31 : Nat → Option VE.Spec := tabOf [(53, wkIn spIn), (54, wkIn spRep), (43, wkIn spVFrm), (23, wkIn spRuns), (55, wkIn spEqRs), (56, wkIn spCloneC)]
theorem tb31_53 : tb31 53 = some (wkIn spIn) := rfl
theorem tb31_54 : tb31 54 = some (wkIn spRep) := rfl
theorem tb31_43 : tb31 43 = some (wkIn spVFrm) := rfl
theorem tb31_23 : tb31 23 = some (wkIn spRuns) := rfl
theorem tb31_55 : tb31 55 = some (wkIn spEqRs) := rfl
theorem tb31_56 : tb31 56 = some (wkIn spCloneC) := rfl
theorem tb31_ok : TabOK Try.prog rt0 tb31 := (tabOf_cons (by kernel_rfl) sat_impl_in (tabOf_cons (by kernel_rfl) sat_slices_Repeat_impl_Color_impl_Color (tabOf_cons (by kernel_rfl) sat_impl_Frame_valid (tabOf_cons (by kernel_rfl) sat_impl_RunsOf (tabOf_cons (by kernel_rfl) sat_slices_Equal_impl_Run_impl_Run (tabOf_cons (by kernel_rfl) sat_impl_clone_impl_Color tabOf_nil))))))
set_option maxHeartbeats 4000000 in
theorem sat_impl_FrameFrom_0 : Sat Try.prog rt0 31 spFrom0 := by
  refine fn_sat hm ttok (tab := tb31) tb31_ok Try.func31 (c := Try.f31.body.getD .skip) (by kernel_rfl) (ts := [.cell 6 27, .tmp 7]) (by kernel_rfl) Try.ntmps31 (sq := fun id => !(id == 7)) (by kernel_rfl) ?_
  intro args ins pk hpre0 hpk
  obtain ⟨rfl, hpre0⟩ := hpre0
  obtain ⟨⟨w, h, R⟩, rfl, hpre, hdec⟩ := famPre_ex hpre0
  clear hpre0 hdec
  try simp only [spFrom0_pre] at hpre
  replace hpk : pk + 0 ≤ pickLimit := hpk
  refine ⟨Nat.le_of_ble_eq_true rfl, ?_⟩
  simp (config := { maxSteps := 1000000 }) only [go_sem, ↓ifP_true, ↓ifP_false, ↓ifP_not, Nat.reduceLT, Nat.reduceAdd, Nat.reduceBEq, Nat.reduceSub, Nat.reduceLeDiff, Nat.reduceEqDiff, Nat.reduceMul, Int.reduceToNat, Int.reduceEq, Int.reduceLT, Int.reduceLE, Int.reduceAdd, Int.reduceSub, Int.reduceMul, reduceCtorEq, cond_true, cond_false, forall_eq', forall_eq, forall_const, implies_true, if_true, if_false, exists_eq_left', exists_eq', exists_eq, ne_eq, Try.f31, tb31_53, tb31_54, tb31_43, tb31_23, tb31_55, tb31_56, spFrom0_q, spFrom0_A, spFrom0_pre, spFrom0_post, spIn_q, spIn_A, spIn_pre, spIn_post, spRep_q, spRep_A, spRep_pre, spRep_post, spVFrm_q, spVFrm_A, spVFrm_pre, spVFrm_post, spRuns_q, spRuns_A, spRuns_pre, spRuns_post, spEqRs_q, spEqRs_A, spEqRs_pre, spEqRs_post, spCloneC_q, spCloneC_A, spCloneC_pre, spCloneC_post]
  repeat' (first | apply And.intro | (intro _) | omega | assumption | with_reducible rfl)
  all_goals try (refine drawI (VE.Plan.first 0 (VE.Plan.first 1 (VE.Plan.first 2 (VE.Plan.first 3 (VE.Plan.first 5 (VE.Plan.first 6 (VE.Plan.alt 4 (VE.Plan.alt 7 (VE.Plan.alt 8 (VE.Plan.first 9 (VE.Plan.alt 10 VE.Plan.nil VE.Plan.nil)) VE.Plan.nil) VE.Plan.nil) VE.Plan.nil))))))) (by decide +kernel) ?_; simp (config := { maxSteps := 1000000 }) only [go_sem, ↓ifP_true, ↓ifP_false, ↓ifP_not, Nat.reduceLT, Nat.reduceAdd, Nat.reduceBEq, Nat.reduceSub, Nat.reduceLeDiff, Nat.reduceEqDiff, Nat.reduceMul, Int.reduceToNat, Int.reduceEq, Int.reduceLT, Int.reduceLE, Int.reduceAdd, Int.reduceSub, Int.reduceMul, reduceCtorEq, cond_true, cond_false, forall_eq', forall_eq, forall_const, implies_true, if_true, if_false, exists_eq_left', exists_eq', exists_eq, ne_eq, planW, stepW, Try.f31, tb31_53, tb31_54, tb31_43, tb31_23, tb31_55, tb31_56, spFrom0_q, spFrom0_A, spFrom0_pre, spFrom0_post, spIn_q, spIn_A, spIn_pre, spIn_post, spRep_q, spRep_A, spRep_pre, spRep_post, spVFrm_q, spVFrm_A, spVFrm_pre, spVFrm_post, spRuns_q, spRuns_A, spRuns_pre, spRuns_post, spEqRs_q, spEqRs_A, spEqRs_pre, spEqRs_post, spCloneC_q, spCloneC_A, spCloneC_pre, spCloneC_post]; repeat' (first | apply And.intro | (intro _) | omega | assumption | with_reducible rfl))
  any_goals
    refine loopWN 40 2 79 3 27 4 44 [C.v (.int .i64 w), C.v (.int .i64 h), C.v (.slice none 0 0)] (α := Int × List Colr) true [3, 4, 5, 9, 10, 11, 12, 13, 16, 17, 18, 19, 20, 21, 22, 23, 24, 25, 26, 27, 28, 29, 30, 31, 32, 33, 34, 35, 36, 37, 38, 39, 40, 41, 42, 43, 44, 45, 46, 47, 48, 49, 50, 51, 52, 53, 54, 55] (fun σ => [40, 79]) (fun σ x => [(16, I x.1)]) (fun σ x => [(40, some ⟨[[C.v (.int .i64 w), C.v (.int .i64 h), C.own 79 x.2.length false]], 3, 27, false, false⟩), (79, some ⟨x.2.map coC, 4, 44, true, false⟩)]) (fun _ => 0) (fun σ => (gI (σ.get 16), gL coCd σ (.c (.own 79 (boxN σ 79).es.length false)))) (fun _ _ => []) (fun x => (0 ≤ x.1 ∧ x.1 ≤ R.length) ∧ x.2 = rX (R.take x.1.toNat) ∧ x.2.length ≤ 144) (fun x => (R.length - x.1).toNat) ?_ ⟨?_, ?_⟩
    · simp (config := { maxSteps := 1000000 }) only [go_sem, ↓ifP_true, ↓ifP_false, ↓ifP_not, Nat.reduceLT, Nat.reduceAdd, Nat.reduceBEq, Nat.reduceSub, Nat.reduceLeDiff, Nat.reduceEqDiff, Nat.reduceMul, Int.reduceToNat, Int.reduceEq, Int.reduceLT, Int.reduceLE, Int.reduceAdd, Int.reduceSub, Int.reduceMul, reduceCtorEq, cond_true, cond_false, forall_eq', forall_eq, forall_const, implies_true, if_true, if_false, exists_eq_left', exists_eq', exists_eq, ne_eq, Try.f31, tb31_53, tb31_54, tb31_43, tb31_23, tb31_55, tb31_56, spFrom0_q, spFrom0_A, spFrom0_pre, spFrom0_post, spIn_q, spIn_A, spIn_pre, spIn_post, spRep_q, spRep_A, spRep_pre, spRep_post, spVFrm_q, spVFrm_A, spVFrm_pre, spVFrm_post, spRuns_q, spRuns_A, spRuns_pre, spRuns_post, spEqRs_q, spEqRs_A, spEqRs_pre, spEqRs_post, spCloneC_q, spCloneC_A, spCloneC_pre, spCloneC_post]
      repeat' (first | apply And.intro | (intro _) | omega | assumption | with_reducible rfl)
      all_goals rfl
    · simp (config := { maxSteps := 1000000 }) only [go_sem, ↓ifP_true, ↓ifP_false, ↓ifP_not, Nat.reduceLT, Nat.reduceAdd, Nat.reduceBEq, Nat.reduceSub, Nat.reduceLeDiff, Nat.reduceEqDiff, Nat.reduceMul, Int.reduceToNat, Int.reduceEq, Int.reduceLT, Int.reduceLE, Int.reduceAdd, Int.reduceSub, Int.reduceMul, reduceCtorEq, cond_true, cond_false, forall_eq', forall_eq, forall_const, implies_true, if_true, if_false, exists_eq_left', exists_eq', exists_eq, ne_eq, Try.f31, tb31_53, tb31_54, tb31_43, tb31_23, tb31_55, tb31_56, spFrom0_q, spFrom0_A, spFrom0_pre, spFrom0_post, spIn_q, spIn_A, spIn_pre, spIn_post, spRep_q, spRep_A, spRep_pre, spRep_post, spVFrm_q, spVFrm_A, spVFrm_pre, spVFrm_post, spRuns_q, spRuns_A, spRuns_pre, spRuns_post, spEqRs_q, spEqRs_A, spEqRs_pre, spEqRs_post, spCloneC_q, spCloneC_A, spCloneC_pre, spCloneC_post]
      repeat' (first | apply And.intro | (intro _) | omega | assumption | with_reducible rfl)
      all_goals (first | rfl | simp)
    · rintro ⟨i, o⟩ hinv
      dsimp only at hinv
      rcases elemAt R i (by omega) with ⟨hlt, r, hk⟩ | hlt
      · have hlt2 := of_eq_true hlt
        simp (config := { maxSteps := 1000000 }) only [go_sem, ↓ifP_true, ↓ifP_false, ↓ifP_not, Nat.reduceLT, Nat.reduceAdd, Nat.reduceBEq, Nat.reduceSub, Nat.reduceLeDiff, Nat.reduceEqDiff, Nat.reduceMul, Int.reduceToNat, Int.reduceEq, Int.reduceLT, Int.reduceLE, Int.reduceAdd, Int.reduceSub, Int.reduceMul, reduceCtorEq, cond_true, cond_false, forall_eq', forall_eq, forall_const, implies_true, if_true, if_false, exists_eq_left', exists_eq', exists_eq, ne_eq, Try.f31, tb31_53, tb31_54, tb31_43, tb31_23, tb31_55, tb31_56, spFrom0_q, spFrom0_A, spFrom0_pre, spFrom0_post, spIn_q, spIn_A, spIn_pre, spIn_post, spRep_q, spRep_A, spRep_pre, spRep_post, spVFrm_q, spVFrm_A, spVFrm_pre, spVFrm_post, spRuns_q, spRuns_A, spRuns_pre, spRuns_post, spEqRs_q, spEqRs_A, spEqRs_pre, spEqRs_post, spCloneC_q, spCloneC_A, spCloneC_pre, spCloneC_post, hlt, hk]
        repeat' (first | apply And.intro | (intro _) | omega | assumption | with_reducible rfl)
        all_goals try (refine drawI (VE.Plan.first 0 (VE.Plan.first 1 (VE.Plan.first 2 (VE.Plan.first 3 (VE.Plan.first 5 (VE.Plan.first 6 (VE.Plan.alt 4 (VE.Plan.alt 7 (VE.Plan.alt 8 (VE.Plan.first 9 (VE.Plan.alt 10 VE.Plan.nil VE.Plan.nil)) VE.Plan.nil) VE.Plan.nil) VE.Plan.nil))))))) (by decide +kernel) ?_; (first | simp (config := { maxSteps := 1000000 }) only [go_sem, ↓ifP_true, ↓ifP_false, ↓ifP_not, Nat.reduceLT, Nat.reduceAdd, Nat.reduceBEq, Nat.reduceSub, Nat.reduceLeDiff, Nat.reduceEqDiff, Nat.reduceMul, Int.reduceToNat, Int.reduceEq, Int.reduceLT, Int.reduceLE, Int.reduceAdd, Int.reduceSub, Int.reduceMul, reduceCtorEq, cond_true, cond_false, forall_eq', forall_eq, forall_const, implies_true, if_true, if_false, exists_eq_left', exists_eq', exists_eq, ne_eq, planW, stepW, Try.f31, tb31_53, tb31_54, tb31_43, tb31_23, tb31_55, tb31_56, spFrom0_q, spFrom0_A, spFrom0_pre, spFrom0_post, spIn_q, spIn_A, spIn_pre, spIn_post, spRep_q, spRep_A, spRep_pre, spRep_post, spVFrm_q, spVFrm_A, spVFrm_pre, spVFrm_post, spRuns_q, spRuns_A, spRuns_pre, spRuns_post, spEqRs_q, spEqRs_A, spEqRs_pre, spEqRs_post, spCloneC_q, spCloneC_A, spCloneC_pre, spCloneC_post, hlt, hk] | simp (config := { maxSteps := 1000000 }) only [go_sem, ↓ifP_true, ↓ifP_false, ↓ifP_not, Nat.reduceLT, Nat.reduceAdd, Nat.reduceBEq, Nat.reduceSub, Nat.reduceLeDiff, Nat.reduceEqDiff, Nat.reduceMul, Int.reduceToNat, Int.reduceEq, Int.reduceLT, Int.reduceLE, Int.reduceAdd, Int.reduceSub, Int.reduceMul, reduceCtorEq, cond_true, cond_false, forall_eq', forall_eq, forall_const, implies_true, if_true, if_false, exists_eq_left', exists_eq', exists_eq, ne_eq, planW, stepW, Try.f31, tb31_53, tb31_54, tb31_43, tb31_23, tb31_55, tb31_56, spFrom0_q, spFrom0_A, spFrom0_pre, spFrom0_post, spIn_q, spIn_A, spIn_pre, spIn_post, spRep_q, spRep_A, spRep_pre, spRep_post, spVFrm_q, spVFrm_A, spVFrm_pre, spVFrm_post, spRuns_q, spRuns_A, spRuns_pre, spRuns_post, spEqRs_q, spEqRs_A, spEqRs_pre, spEqRs_post, spCloneC_q, spCloneC_A, spCloneC_pre, spCloneC_post]); repeat' (first | apply And.intro | (intro _) | omega | assumption | with_reducible rfl))
        all_goals (first | (exact ff_s hinv.1.1 hk hinv.2.1; done) | (exact (ffC_n (ff_x1 hk hinv.2.1 (by omega))).symm; done) | (exact (ffB_n (ff_x1 hk hinv.2.1 (by omega))).symm; done) | (exact (ff_x1 hk hinv.2.1 (by omega)).symm; done) | omega | skip)
      · have hlt2 := of_eq_false hlt
        simp (config := { maxSteps := 1000000 }) only [go_sem, ↓ifP_true, ↓ifP_false, ↓ifP_not, Nat.reduceLT, Nat.reduceAdd, Nat.reduceBEq, Nat.reduceSub, Nat.reduceLeDiff, Nat.reduceEqDiff, Nat.reduceMul, Int.reduceToNat, Int.reduceEq, Int.reduceLT, Int.reduceLE, Int.reduceAdd, Int.reduceSub, Int.reduceMul, reduceCtorEq, cond_true, cond_false, forall_eq', forall_eq, forall_const, implies_true, if_true, if_false, exists_eq_left', exists_eq', exists_eq, ne_eq, Try.f31, tb31_53, tb31_54, tb31_43, tb31_23, tb31_55, tb31_56, spFrom0_q, spFrom0_A, spFrom0_pre, spFrom0_post, spIn_q, spIn_A, spIn_pre, spIn_post, spRep_q, spRep_A, spRep_pre, spRep_post, spVFrm_q, spVFrm_A, spVFrm_pre, spVFrm_post, spRuns_q, spRuns_A, spRuns_pre, spRuns_post, spEqRs_q, spEqRs_A, spEqRs_pre, spEqRs_post, spCloneC_q, spCloneC_A, spCloneC_pre, spCloneC_post, hlt]
        repeat' (first | apply And.intro | (intro _) | omega | assumption | with_reducible rfl)
        all_goals try (refine drawI (VE.Plan.first 0 (VE.Plan.first 1 (VE.Plan.first 2 (VE.Plan.first 3 (VE.Plan.first 5 (VE.Plan.first 6 (VE.Plan.alt 4 (VE.Plan.alt 7 (VE.Plan.alt 8 (VE.Plan.first 9 (VE.Plan.alt 10 VE.Plan.nil VE.Plan.nil)) VE.Plan.nil) VE.Plan.nil) VE.Plan.nil))))))) (by decide +kernel) ?_; (first | simp (config := { maxSteps := 1000000 }) only [go_sem, ↓ifP_true, ↓ifP_false, ↓ifP_not, Nat.reduceLT, Nat.reduceAdd, Nat.reduceBEq, Nat.reduceSub, Nat.reduceLeDiff, Nat.reduceEqDiff, Nat.reduceMul, Int.reduceToNat, Int.reduceEq, Int.reduceLT, Int.reduceLE, Int.reduceAdd, Int.reduceSub, Int.reduceMul, reduceCtorEq, cond_true, cond_false, forall_eq', forall_eq, forall_const, implies_true, if_true, if_false, exists_eq_left', exists_eq', exists_eq, ne_eq, planW, stepW, Try.f31, tb31_53, tb31_54, tb31_43, tb31_23, tb31_55, tb31_56, spFrom0_q, spFrom0_A, spFrom0_pre, spFrom0_post, spIn_q, spIn_A, spIn_pre, spIn_post, spRep_q, spRep_A, spRep_pre, spRep_post, spVFrm_q, spVFrm_A, spVFrm_pre, spVFrm_post, spRuns_q, spRuns_A, spRuns_pre, spRuns_post, spEqRs_q, spEqRs_A, spEqRs_pre, spEqRs_post, spCloneC_q, spCloneC_A, spCloneC_pre, spCloneC_post, hlt] | simp (config := { maxSteps := 1000000 }) only [go_sem, ↓ifP_true, ↓ifP_false, ↓ifP_not, Nat.reduceLT, Nat.reduceAdd, Nat.reduceBEq, Nat.reduceSub, Nat.reduceLeDiff, Nat.reduceEqDiff, Nat.reduceMul, Int.reduceToNat, Int.reduceEq, Int.reduceLT, Int.reduceLE, Int.reduceAdd, Int.reduceSub, Int.reduceMul, reduceCtorEq, cond_true, cond_false, forall_eq', forall_eq, forall_const, implies_true, if_true, if_false, exists_eq_left', exists_eq', exists_eq, ne_eq, planW, stepW, Try.f31, tb31_53, tb31_54, tb31_43, tb31_23, tb31_55, tb31_56, spFrom0_q, spFrom0_A, spFrom0_pre, spFrom0_post, spIn_q, spIn_A, spIn_pre, spIn_post, spRep_q, spRep_A, spRep_pre, spRep_post, spVFrm_q, spVFrm_A, spVFrm_pre, spVFrm_post, spRuns_q, spRuns_A, spRuns_pre, spRuns_post, spEqRs_q, spEqRs_A, spEqRs_pre, spEqRs_post, spCloneC_q, spCloneC_A, spCloneC_pre, spCloneC_post]); repeat' (first | apply And.intro | (intro _) | omega | assumption | with_reducible rfl))
        all_goals (first | (exact Nat.le_trans (rnF_len _) (by dsimp only; omega); done) | ((rw [ffC_y (ff_y7 hlt2 hinv.2.1 ‹vFrm _ = true› ‹rnF _ = R›).1, ← ff_e hlt2 hinv.2.1]); done) | ((rw [ffB_y (ff_y7 hlt2 hinv.2.1 ‹vFrm _ = true› ‹rnF _ = R›).1, ← ff_e hlt2 hinv.2.1]); done) | (exact (ff_y7 hlt2 hinv.2.1 ‹vFrm _ = true› ‹rnF _ = R›).1.symm; done) | (exact (ffC_n (ff_x7 hlt2 hinv.2.1 ‹vFrm _ = true› ‹¬ rnF _ = R›)).symm; done) | (exact (ffB_n (ff_x7 hlt2 hinv.2.1 ‹vFrm _ = true› ‹¬ rnF _ = R›)).symm; done) | (exact (ff_x7 hlt2 hinv.2.1 ‹vFrm _ = true› ‹¬ rnF _ = R›).symm; done) | (exact (ffC_n (ff_x5 hlt2 hinv.2.1 ‹vFrm _ = false›)).symm; done) | (exact (ffB_n (ff_x5 hlt2 hinv.2.1 ‹vFrm _ = false›)).symm; done) | (exact (ff_x5 hlt2 hinv.2.1 ‹vFrm _ = false›).symm; done) | skip)
  all_goals (first | (omega; done) | (rfl; done) | (skip; done))
theorem sat_impl_FrameFrom : Sat Try.prog rt0 31 (wkIn spFrom0) := sat_in sat_impl_FrameFrom_0
def spFromO_A : Int × Int × (List Rn) → List AV
  | (w, h, R) => [I w, I h, .c (.sl false (R.map rnC))]
def spFromO_pre : Int × Int × (List Rn) → Prop
  | (w, h, R) => R.length ≤ 2000000
def spFromO_post : Int × Int × (List Rn) → AV → List Box → Prop
  | (w, h, R), r, bs => r = .tup [.agg [C.v (.int .i64 (ffF w h R).w), C.v (.int .i64 (ffF w h R).h), C.own 0 (ffF w h R).px.length false], B (okFF w h R)] ∧ bs = [⟨(ffF w h R).px.map coC, 4, 44, true, false⟩]
def spFromO : VE.Spec := famSpec spFromO_A d_i_i_lrn spFromO_pre spFromO_post 0 true
theorem spFromO_q : spFromO.flat = true ∧ spFromO.mt = [] ∧ spFromO.shut = false ∧ spFromO.cost = 0 ∧ (∀ a i, spFromO.pre a i = (i = [] ∧ famPre d_i_i_lrn spFromO_A spFromO_pre a)) ∧ ∀ a i r b, spFromO.post a i r b = (famPost d_i_i_lrn spFromO_post a r b) := ⟨rfl, rfl, rfl, rfl, fun _ _ => rfl, fun _ _ _ _ => rfl⟩
theorem satFromO : Sat Try.prog rt0 31 (wkIn spFromO) := by
  refine sat_in (sat_nil 4 44 sat_impl_FrameFrom_0 (fun a i h => ⟨h.1, h⟩) rfl rfl fun a r bs hp h => ?_)
  obtain ⟨x, rfl, hp, hd⟩ := famPre_ex hp.2
  obtain ⟨w, h0, R⟩ := x
  have h2 : spFrom0_post (w, h0, R) r bs := by
    have h3 : famPost d_i_i_lrn spFrom0_post (spFrom0_A (w, h0, R)) r bs := h
    rw [famPost, hd] at h3; exact h3
  have hO : ∀ r bs, spFromO_post (w, h0, R) r bs → spFromO.post (spFrom0_A (w, h0, R)) [] r bs := fun r bs h4 => by
    show famPost d_i_i_lrn spFromO_post (spFrom0_A (w, h0, R)) r bs
    rw [famPost, hd]; exact h4
  obtain ⟨rfl, rfl⟩ := h2
  cases hk : okFF w h0 R with
  | true =>
    refine .inl (hO _ _ ?_)
    rw [ffC_y hk, ffB_y hk]
    simp only [spFromO_post, ff_yes hk, hk, and_self]
  | false =>
    refine .inr ⟨ffB_n hk, _, hO _ _ ?_, fun h => nil_structB (cs := [C.v (.int .i64 0), C.v (.int .i64 0)]) (y := .bool false) (by intro c hc; simp only [List.mem_cons, List.not_mem_nil, or_false] at hc; rcases hc with rfl | rfl <;> rfl) (by rw [ffC_n hk] at h; exact h)⟩
    simp only [spFromO_post, ff_no hk, hk]
    exact ⟨rfl, rfl⟩
end Go.Proofs.Ytofelomoieamoaa
