/- Contracts of functions of the program vectorraster, each proved for all states that fit its description. No conditions. -/
import Derived.Test.YtcejoknapbhloaaP6L32
set_option maxRecDepth 100000
set_option linter.unusedSimpArgs false
set_option linter.unusedVariables false
namespace Go.Proofs.Ytcejoknapbhloaa
open Go Go.VE
theorem rev_yy {L : List (List Pt)} {w x n k : Int} {p p1 q q1 : Cross} (h0 : 0 ≤ k) (hn : n = atS ((crV L w).take k.toNat) x + atS ((crV (revL L) w).take k.toNat) x) (e1 : p.a = x) (hp : (crV L w)[k.toNat]? = some p) (e2 : q.a = x) (hq : (crV (revL L) w)[k.toNat]? = some q) (hp1 : (crV L w)[k.toNat]? = some p1) (hq1 : (crV (revL L) w)[k.toNat]? = some q1) : n + p1.s + q1.s = atS ((crV L w).take (k + 1).toNat) x + atS ((crV (revL L) w).take (k + 1).toNat) x := by
  rw [hp] at hp1; cases hp1
  rw [hq] at hq1; cases hq1
  rw [atS_step hp h0, atS_step hq h0, if_pos e1, if_pos e2]; omega
theorem rev_yn {L : List (List Pt)} {w x n k : Int} {p p1 q : Cross} (h0 : 0 ≤ k) (hn : n = atS ((crV L w).take k.toNat) x + atS ((crV (revL L) w).take k.toNat) x) (e1 : p.a = x) (hp : (crV L w)[k.toNat]? = some p) (e2 : ¬ q.a = x) (hq : (crV (revL L) w)[k.toNat]? = some q) (hp1 : (crV L w)[k.toNat]? = some p1) : n + p1.s = atS ((crV L w).take (k + 1).toNat) x + atS ((crV (revL L) w).take (k + 1).toNat) x := by
  rw [hp] at hp1; cases hp1
  rw [atS_step hp h0, atS_step hq h0, if_pos e1, if_neg e2]; omega
theorem rev_ny {L : List (List Pt)} {w x n k : Int} {p q q1 : Cross} (h0 : 0 ≤ k) (hn : n = atS ((crV L w).take k.toNat) x + atS ((crV (revL L) w).take k.toNat) x) (e1 : ¬ p.a = x) (hp : (crV L w)[k.toNat]? = some p) (e2 : q.a = x) (hq : (crV (revL L) w)[k.toNat]? = some q) (hq1 : (crV (revL L) w)[k.toNat]? = some q1) : n + q1.s = atS ((crV L w).take (k + 1).toNat) x + atS ((crV (revL L) w).take (k + 1).toNat) x := by
  rw [hq] at hq1; cases hq1
  rw [atS_step hp h0, atS_step hq h0, if_neg e1, if_pos e2]; omega
theorem rev_nn {L : List (List Pt)} {w x n k : Int} {p q : Cross} (h0 : 0 ≤ k) (hn : n = atS ((crV L w).take k.toNat) x + atS ((crV (revL L) w).take k.toNat) x) (e1 : ¬ p.a = x) (hp : (crV L w)[k.toNat]? = some p) (e2 : ¬ q.a = x) (hq : (crV (revL L) w)[k.toNat]? = some q) : n = atS ((crV L w).take (k + 1).toNat) x + atS ((crV (revL L) w).take (k + 1).toNat) x := by
  rw [atS_step hp h0, atS_step hq h0, if_neg e1, if_neg e2]; omega
theorem rev_yy2 {L : List (List Pt)} {w x n k : Int} {p q : Cross} (h0 : 0 ≤ k) (hn : n = atS ((crV L w).take k.toNat) x + atS ((crV (revL L) w).take k.toNat) x) (hp : (crV L w)[k.toNat]? = some p) (hq : (crV (revL L) w)[k.toNat]? = some q) (e : p.a = x ∧ q.a = x) : n + p.s + q.s = atS ((crV L w).take (k + 1).toNat) x + atS ((crV (revL L) w).take (k + 1).toNat) x := rev_yy h0 hn e.1 hp e.2 hq hp hq
theorem rev_fin {L : List (List Pt)} {w x n k : Int} (hn : n = atS ((crV L w).take k.toNat) x + atS ((crV (revL L) w).take k.toNat) x) (hk : ¬ k < ((crV L w).length : Int) ∨ ¬ k < ((crV (revL L) w).length : Int)) (h : ¬ n = 0) : False := by
  have e := crV_rev L w x
  rw [List.take_of_length_le (by omega), List.take_of_length_le (by omega), e.1] at hn
  omega
def tb4 : Nat → Option VE.Spec := tabOf [(10, wkIn spDCR), (11, wkIn spCrsOf), (12, wkIn spEqX), (13, wkIn spCrsOf), (14, wkIn spRev)]
theorem tb4_10 : tb4 10 = some (wkIn spDCR) := rfl
theorem tb4_11 : tb4 11 = some (wkIn spCrsOf) := rfl
theorem tb4_12 : tb4 12 = some (wkIn spEqX) := rfl
theorem tb4_13 : tb4 13 = some (wkIn spCrsOf) := rfl
theorem tb4_14 : tb4 14 = some (wkIn spRev) := rfl
theorem tb4_ok : TabOK Try.prog rt0 tb4 := (tabOf_cons (by kernel_rfl) sat_spec_DrawCrossesOf (tabOf_cons (by kernel_rfl) sat_impl_CrossesOf (tabOf_cons (by kernel_rfl) sat_laws_equalCrosses (tabOf_cons (by kernel_rfl) sat_spec_CrossesOf (tabOf_cons (by kernel_rfl) sat_laws_reversed tabOf_nil)))))
set_option maxHeartbeats 4000000 in
theorem sat_laws_FnCrossesOfReverse_0 : Sat Try.prog rt0 4 spLaw := by
  refine fn_sat hm ttok (tab := tb4) tb4_ok Try.func4 (c := Try.f4.body.getD .skip) (by kernel_rfl) (ts := [.tmp 2]) (by kernel_rfl) Try.ntmps4 (sq := fun _ => true) (by kernel_rfl) ?_
  intro args ins pk hpre0 hpk
  obtain ⟨rfl, hpre0⟩ := hpre0
  obtain ⟨code, rfl, hpre, hdec⟩ := famPre_ex hpre0
  clear hpre0 hdec
  try simp only [spLaw_pre] at hpre
  replace hpk : pk + 100000 ≤ pickLimit := hpk
  refine ⟨Nat.le_of_ble_eq_true rfl, ?_⟩
  simp (config := { maxSteps := 1000000 }) only [go_sem, ↓ifP_true, ↓ifP_false, ↓ifP_not, Nat.reduceLT, Nat.reduceAdd, Nat.reduceBEq, Nat.reduceSub, Nat.reduceLeDiff, Nat.reduceEqDiff, Nat.reduceMul, Int.reduceToNat, Int.reduceEq, Int.reduceLT, Int.reduceLE, Int.reduceAdd, Int.reduceSub, Int.reduceMul, reduceCtorEq, cond_true, cond_false, forall_eq', forall_eq, forall_const, implies_true, if_true, if_false, exists_eq_left', exists_eq', exists_eq, ne_eq, Try.f4, tb4_10, tb4_11, tb4_12, tb4_13, tb4_14, spLaw_q, spLaw_A, spLaw_pre, spLaw_post, spDCR_q, spDCR_A, spDCR_pre, spDCR_post, spCrsOf_q, spCrsOf_A, spCrsOf_pre, spCrsOf_post, spEqX_q, spEqX_A, spEqX_pre, spEqX_post, spRev_q, spRev_A, spRev_pre, spRev_post]
  repeat' (first | apply And.intro | (intro _) | omega | assumption | with_reducible rfl)
  any_goals
    rename_i L w hL1 hL2 hL3
    refine loopS (α := Int) false [0, 1, 2, 3, 4, 7, 8, 9, 10, 11, 12, 13, 14, 15, 16, 17, 18, 19, 20, 21, 22, 23, 24, 25, 26, 27, 28, 29, 30, 31, 32, 33, 34, 35, 36, 37, 38, 39, 40, 41, 42, 43, 44, 45, 46, 47, 48, 49, 50, 51, 52, 53, 54, 55, 56, 57, 58, 59, 60, 61, 62, 63, 64, 65, 66, 67, 68, 69, 70, 71, 72, 73, 74, 75, 76, 77, 78, 79, 80, 81, 82, 83, 84, 85, 86] (fun σ => []) (fun σ x => [(7, I x)]) (fun σ x => []) (fun i => 0) (fun σ => gI (σ.get 7)) (fun σ τ => []) (fun i => (0 ≤ i ∧ i ≤ (crV L w).length)) (fun i => ((crV L w).length - i).toNat) ⟨by (simp (config := { maxSteps := 1000000 }) only [go_sem, ↓ifP_true, ↓ifP_false, ↓ifP_not, Nat.reduceLT, Nat.reduceAdd, Nat.reduceBEq, Nat.reduceSub, Nat.reduceLeDiff, Nat.reduceEqDiff, Nat.reduceMul, Int.reduceToNat, Int.reduceEq, Int.reduceLT, Int.reduceLE, Int.reduceAdd, Int.reduceSub, Int.reduceMul, reduceCtorEq, cond_true, cond_false, forall_eq', forall_eq, forall_const, implies_true, if_true, if_false, exists_eq_left', exists_eq', exists_eq, ne_eq, Try.f4, tb4_10, tb4_11, tb4_12, tb4_13, tb4_14, spLaw_q, spLaw_A, spLaw_pre, spLaw_post, spDCR_q, spDCR_A, spDCR_pre, spDCR_post, spCrsOf_q, spCrsOf_A, spCrsOf_pre, spCrsOf_post, spEqX_q, spEqX_A, spEqX_pre, spEqX_post, spRev_q, spRev_A, spRev_pre, spRev_post]; (repeat' (first | apply And.intro | (intro _) | omega | assumption | with_reducible rfl)); all_goals (first | rfl)), ?_⟩
    rintro i hinv
    try dsimp only at hinv
    rcases elemAt (crV L w) i (by omega) with ⟨hlt, x, hk⟩ | hlt
    all_goals (first | ((have hlt2 := of_eq_true hlt); (have hCl := crV_len L w); all_goals simp (config := { maxSteps := 1000000 }) only [go_sem, ↓ifP_true, ↓ifP_false, ↓ifP_not, Nat.reduceLT, Nat.reduceAdd, Nat.reduceBEq, Nat.reduceSub, Nat.reduceLeDiff, Nat.reduceEqDiff, Nat.reduceMul, Int.reduceToNat, Int.reduceEq, Int.reduceLT, Int.reduceLE, Int.reduceAdd, Int.reduceSub, Int.reduceMul, reduceCtorEq, cond_true, cond_false, forall_eq', forall_eq, forall_const, implies_true, if_true, if_false, exists_eq_left', exists_eq', exists_eq, ne_eq, Try.f4, tb4_10, tb4_11, tb4_12, tb4_13, tb4_14, spLaw_q, spLaw_A, spLaw_pre, spLaw_post, spDCR_q, spDCR_A, spDCR_pre, spDCR_post, spCrsOf_q, spCrsOf_A, spCrsOf_pre, spCrsOf_post, spEqX_q, spEqX_A, spEqX_pre, spEqX_post, spRev_q, spRev_A, spRev_pre, spRev_post, hlt, hk]) | (have hlt2 := of_eq_false hlt; simp (config := { maxSteps := 1000000 }) only [go_sem, ↓ifP_true, ↓ifP_false, ↓ifP_not, Nat.reduceLT, Nat.reduceAdd, Nat.reduceBEq, Nat.reduceSub, Nat.reduceLeDiff, Nat.reduceEqDiff, Nat.reduceMul, Int.reduceToNat, Int.reduceEq, Int.reduceLT, Int.reduceLE, Int.reduceAdd, Int.reduceSub, Int.reduceMul, reduceCtorEq, cond_true, cond_false, forall_eq', forall_eq, forall_const, implies_true, if_true, if_false, exists_eq_left', exists_eq', exists_eq, ne_eq, Try.f4, tb4_10, tb4_11, tb4_12, tb4_13, tb4_14, spLaw_q, spLaw_A, spLaw_pre, spLaw_post, spDCR_q, spDCR_A, spDCR_pre, spDCR_post, spCrsOf_q, spCrsOf_A, spCrsOf_pre, spCrsOf_post, spEqX_q, spEqX_A, spEqX_pre, spEqX_post, spRev_q, spRev_A, spRev_pre, spRev_post, hlt]))
    all_goals
    repeat' (first | apply And.intro | (intro _) | omega | assumption | with_reducible rfl)
  any_goals
    have hk0 := hk
    have hlt0 := hlt
    refine loopS (α := Int × Int) false [0, 1, 3, 4, 8, 9, 10, 11, 12, 13, 14, 15, 16, 17, 18, 19, 20, 21, 22, 23, 24, 25, 26, 27, 28, 29, 30, 31, 32, 33, 34, 35, 36, 37, 38, 39, 40, 41, 42, 43, 44, 45, 46, 47, 48, 49, 50, 51, 52, 53, 54, 55, 56, 57, 58, 59, 60, 61, 62, 63, 64, 65, 66, 67, 68, 69, 70, 71, 72, 73, 74, 75, 76, 77, 78, 79, 80, 81, 82, 83, 84, 86] (fun σ => []) (fun σ x => [(8, I x.1), (9, I x.2)]) (fun σ x => []) (fun (n, k) => 0) (fun σ => (gI (σ.get 8), gI (σ.get 9))) (fun σ τ => []) (fun (n, k) => (0 ≤ k ∧ k ≤ (crV L w).length) ∧ n = atS ((crV L w).take k.toNat) x.a + atS ((crV (revL L) w).take k.toNat) x.a) (fun (n, k) => ((crV L w).length - k).toNat) ⟨by (simp (config := { maxSteps := 1000000 }) only [go_sem, ↓ifP_true, ↓ifP_false, ↓ifP_not, Nat.reduceLT, Nat.reduceAdd, Nat.reduceBEq, Nat.reduceSub, Nat.reduceLeDiff, Nat.reduceEqDiff, Nat.reduceMul, Int.reduceToNat, Int.reduceEq, Int.reduceLT, Int.reduceLE, Int.reduceAdd, Int.reduceSub, Int.reduceMul, reduceCtorEq, cond_true, cond_false, forall_eq', forall_eq, forall_const, implies_true, if_true, if_false, exists_eq_left', exists_eq', exists_eq, ne_eq, Try.f4, tb4_10, tb4_11, tb4_12, tb4_13, tb4_14, spLaw_q, spLaw_A, spLaw_pre, spLaw_post, spDCR_q, spDCR_A, spDCR_pre, spDCR_post, spCrsOf_q, spCrsOf_A, spCrsOf_pre, spCrsOf_post, spEqX_q, spEqX_A, spEqX_pre, spEqX_post, spRev_q, spRev_A, spRev_pre, spRev_post, hlt0, hk0]; (repeat' (first | apply And.intro | (intro _) | omega | assumption | with_reducible rfl)); all_goals (first | rfl)), ?_⟩
    rintro ⟨n, k⟩ hinv
    try dsimp only at hinv
    simp (config := { maxSteps := 1000000 }) only [go_sem, ↓ifP_true, ↓ifP_false, ↓ifP_not, Nat.reduceLT, Nat.reduceAdd, Nat.reduceBEq, Nat.reduceSub, Nat.reduceLeDiff, Nat.reduceEqDiff, Nat.reduceMul, Int.reduceToNat, Int.reduceEq, Int.reduceLT, Int.reduceLE, Int.reduceAdd, Int.reduceSub, Int.reduceMul, reduceCtorEq, cond_true, cond_false, forall_eq', forall_eq, forall_const, implies_true, if_true, if_false, exists_eq_left', exists_eq', exists_eq, ne_eq, Try.f4, tb4_10, tb4_11, tb4_12, tb4_13, tb4_14, spLaw_q, spLaw_A, spLaw_pre, spLaw_post, spDCR_q, spDCR_A, spDCR_pre, spDCR_post, spCrsOf_q, spCrsOf_A, spCrsOf_pre, spCrsOf_post, spEqX_q, spEqX_A, spEqX_pre, spEqX_post, spRev_q, spRev_A, spRev_pre, spRev_post, hlt0, hk0]
    have hb1 := @atS_bd L w x.a k.toNat
    have hb2 := @atS_bd (revL L) w x.a k.toNat
    repeat' (first | apply And.intro | (intro _) | omega | assumption | with_reducible rfl)
  all_goals (first | (exact crV_le _ _; done) | ((rw [revL_len]; omega); done) | ((rw [revL_total]; omega); done) | (omega; done) | ((have h3 := crV_at ‹(crV L w)[k.toNat]? = some _›; omega); done) | ((have h3 := crV_at ‹(crV (revL L) w)[k.toNat]? = some _›; omega); done) | ((have h3 := crV_at ‹(crV L w)[k.toNat]? = some _›; have h4 := crV_at ‹(crV (revL L) w)[k.toNat]? = some _›; omega); done) | ((rename_i p3 g3 e3 p2 g2 p1 g1 e1 p0 g0; exact rev_yy hinv.1.1 hinv.2 e3 g3 e1 g1 g2 g0); done) | ((rename_i p3 g3 e3 p2 g2 e2; exact rev_nn hinv.1.1 hinv.2 e3 g3 e2 g2); done) | (exact rev_yn hinv.1.1 hinv.2 ‹Cross.a _ = x.a› (by assumption) ‹¬ Cross.a _ = x.a› (by assumption) (by assumption); done) | (exact rev_ny hinv.1.1 hinv.2 ‹¬ Cross.a _ = x.a› (by assumption) ‹Cross.a _ = x.a› (by assumption) (by assumption); done) | (exact rev_nn hinv.1.1 hinv.2 ‹¬ Cross.a _ = x.a› (by assumption) ‹¬ Cross.a _ = x.a› (by assumption); done) | (exact rev_fin hinv.2 (.inl ‹_›) ‹_›; done) | (exact rev_fin hinv.2 (.inr ‹_›) ‹_›; done) | ((rw [(crV_rev L w 0).2]); done) | (skip; done))
theorem sat_laws_FnCrossesOfReverse : Sat Try.prog rt0 4 (wkIn spLaw) := sat_in sat_laws_FnCrossesOfReverse_0
end Go.Proofs.Ytcejoknapbhloaa
