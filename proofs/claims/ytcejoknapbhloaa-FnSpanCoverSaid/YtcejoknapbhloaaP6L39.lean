/- Contracts of functions of the program vectorraster, each proved for all states that fit its description. No conditions. -/
import Derived.Test.YtcejoknapbhloaaP6L32
set_option maxRecDepth 100000
set_option linter.unusedSimpArgs false
set_option linter.unusedVariables false
namespace Go.Proofs.Ytcejoknapbhloaa
open Go Go.VE
theorem cov_pos5 {L : List (List Pt)} {rl c w : Int} (h : ¬ (if okCov L rl c w = true then cov L rl c w else -1) < 0) : okCov L rl c w = true ∧ vRings L = true ∧ isRl rl = true ∧ (0 ≤ c ∧ c ≤ 11) ∧ 0 ≤ w ∧ w ≤ 11 := by
  by_cases e : okCov L rl c w = true
  · refine ⟨e, ?_⟩
    simp only [okCov, Bool.and_eq_true, decide_eq_true_eq, and_assoc] at e
    simpa [and_assoc] using e
  · rw [if_neg e] at h; omega
theorem cov_spans {L : List (List Pt)} {rl c w : Int} (h : vRings L = true ∧ isRl rl = true ∧ (0 ≤ c ∧ c ≤ 11) ∧ 0 ≤ w ∧ w ≤ 11) : sumN (fun j : Nat => spanN (spV L rl (4 * w + j)) c) 4 = cov L rl c w := by
  have e : ∀ i : Nat, i < 4 → spanN (spV L rl (4 * w + i)) c = sumN (fun a => ins1 L rl (smp c a) (smp w i)) 4 := fun i hi => span_row h.1 h.2.1 h.2.2.1 h.2.2.2 hi
  have e0 := e 0 (by omega)
  have e1 := e 1 (by omega)
  have e2 := e 2 (by omega)
  have e3 := e 3 (by omega)
  simp only [sumN, cov] at *
  omega
theorem row_bd {L : List (List Pt)} {rl c w i : Int} (h : vRings L = true ∧ isRl rl = true ∧ (0 ≤ c ∧ c ≤ 11) ∧ 0 ≤ w ∧ w ≤ 11) (h0 : 0 ≤ i) (hi : i < 4) : 0 ≤ spanN (spV L rl (4 * w + i)) c ∧ spanN (spV L rl (4 * w + i)) c ≤ 4 := by
  obtain ⟨n, rfl⟩ : ∃ n : Nat, i = n := ⟨i.toNat, by omega⟩
  rw [span_row h.1 h.2.1 h.2.2.1 h.2.2.2 (i := n) (by omega)]
  have hb := fun a : Nat => ins1_bd L rl (smp c a) (smp w n)
  have h0 := hb 0
  have h1 := hb 1
  have h2 := hb 2
  have h3 := hb 3
  simp only [sumN] at *
  omega
theorem rows_bd {L : List (List Pt)} {rl c w : Int} (h : vRings L = true ∧ isRl rl = true ∧ (0 ≤ c ∧ c ≤ 11) ∧ 0 ≤ w ∧ w ≤ 11) : ∀ n : Nat, n ≤ 4 → 0 ≤ sumN (fun j : Nat => spanN (spV L rl (4 * w + j)) c) n ∧ sumN (fun j : Nat => spanN (spV L rl (4 * w + j)) c) n ≤ 4 * n
  | 0, _ => by simp [sumN]
  | n + 1, hn => by
    have ih := rows_bd h n (by omega)
    have := row_bd h (i := (n : Int)) (by omega) (by omega)
    simp only [sumN] at *
    omega
def tb6 : Nat → Option VE.Spec := tabOf [(17, wkIn spDCO), (18, wkIn spCovOf), (19, wkIn spCovOf), (21, wkIn spSpV), (20, wkIn spSpanC)]
theorem tb6_17 : tb6 17 = some (wkIn spDCO) := rfl
theorem tb6_18 : tb6 18 = some (wkIn spCovOf) := rfl
theorem tb6_19 : tb6 19 = some (wkIn spCovOf) := rfl
theorem tb6_21 : tb6 21 = some (wkIn spSpV) := rfl
theorem tb6_20 : tb6 20 = some (wkIn spSpanC) := rfl
theorem tb6_ok : TabOK Try.prog rt0 tb6 := (tabOf_cons (by kernel_rfl) sat_spec_DrawCoverOf (tabOf_cons (by kernel_rfl) sat_impl_CoverOf (tabOf_cons (by kernel_rfl) sat_spec_CoverOf (tabOf_cons (by kernel_rfl) sat_impl_SpansOf (tabOf_cons (by kernel_rfl) sat_impl_SpanCover tabOf_nil)))))
set_option maxHeartbeats 4000000 in
theorem sat_laws_FnSpanCover_0 : Sat Try.prog rt0 6 spLaw := by
  refine fn_sat hm ttok (tab := tb6) tb6_ok Try.func6 (c := Try.f6.body.getD .skip) (by kernel_rfl) (ts := [.tmp 2]) (by kernel_rfl) Try.ntmps6 (sq := fun _ => true) (by kernel_rfl) ?_
  intro args ins pk hpre0 hpk
  obtain ⟨rfl, hpre0⟩ := hpre0
  obtain ⟨code, rfl, hpre, hdec⟩ := famPre_ex hpre0
  clear hpre0 hdec
  try simp only [spLaw_pre] at hpre
  replace hpk : pk + 100000 ≤ pickLimit := hpk
  refine ⟨Nat.le_of_ble_eq_true rfl, ?_⟩
  simp (config := { maxSteps := 1000000 }) only [go_sem, ↓ifP_true, ↓ifP_false, ↓ifP_not, Nat.reduceLT, Nat.reduceAdd, Nat.reduceBEq, Nat.reduceSub, Nat.reduceLeDiff, Nat.reduceEqDiff, Nat.reduceMul, Int.reduceToNat, Int.reduceEq, Int.reduceLT, Int.reduceLE, Int.reduceAdd, Int.reduceSub, Int.reduceMul, reduceCtorEq, cond_true, cond_false, forall_eq', forall_eq, forall_const, implies_true, if_true, if_false, exists_eq_left', exists_eq', exists_eq, ne_eq, Try.f6, tb6_17, tb6_18, tb6_19, tb6_21, tb6_20, spLaw_q, spLaw_A, spLaw_pre, spLaw_post, spDCO_q, spDCO_A, spDCO_pre, spDCO_post, spCovOf_q, spCovOf_A, spCovOf_pre, spCovOf_post, spSpV_q, spSpV_A, spSpV_pre, spSpV_post, spSpanC_q, spSpanC_A, spSpanC_pre, spSpanC_post]
  repeat' (first | apply And.intro | (intro _) | omega | assumption | with_reducible rfl)
  any_goals
    rename_i L rl c w hL1 hL2 hL3 hn
    have hC := cov_pos5 hn
    refine loopS (α := Int × Int) false [0, 1, 8, 9, 10, 11, 12, 13, 14, 15, 16, 17, 18, 19, 20, 21, 22, 23, 24, 25, 26, 27, 28, 29, 30, 31, 32, 33, 34, 35, 36, 37, 38, 39, 40, 41, 42, 43, 44, 45, 46, 47, 48, 49, 50, 51, 52, 53, 54, 55, 56, 57] (fun σ => []) (fun σ x => [(8, I x.1), (9, I x.2)]) (fun σ x => []) (fun (k, i) => 0) (fun σ => (gI (σ.get 8), gI (σ.get 9))) (fun σ τ => []) (fun (k, i) => (0 ≤ i ∧ i ≤ 4) ∧ k = sumN (fun j : Nat => spanN (spV L rl (4 * w + j)) c) i.toNat) (fun (k, i) => (4 - i).toNat) ⟨by (simp (config := { maxSteps := 1000000 }) only [go_sem, ↓ifP_true, ↓ifP_false, ↓ifP_not, Nat.reduceLT, Nat.reduceAdd, Nat.reduceBEq, Nat.reduceSub, Nat.reduceLeDiff, Nat.reduceEqDiff, Nat.reduceMul, Int.reduceToNat, Int.reduceEq, Int.reduceLT, Int.reduceLE, Int.reduceAdd, Int.reduceSub, Int.reduceMul, reduceCtorEq, cond_true, cond_false, forall_eq', forall_eq, forall_const, implies_true, if_true, if_false, exists_eq_left', exists_eq', exists_eq, ne_eq, Try.f6, tb6_17, tb6_18, tb6_19, tb6_21, tb6_20, spLaw_q, spLaw_A, spLaw_pre, spLaw_post, spDCO_q, spDCO_A, spDCO_pre, spDCO_post, spCovOf_q, spCovOf_A, spCovOf_pre, spCovOf_post, spSpV_q, spSpV_A, spSpV_pre, spSpV_post, spSpanC_q, spSpanC_A, spSpanC_pre, spSpanC_post]; (repeat' (first | apply And.intro | (intro _) | omega | assumption | with_reducible rfl)); all_goals (first | rfl)), ?_⟩
    rintro ⟨k, i⟩ hinv
    try dsimp only at hinv
    simp (config := { maxSteps := 1000000 }) only [go_sem, ↓ifP_true, ↓ifP_false, ↓ifP_not, Nat.reduceLT, Nat.reduceAdd, Nat.reduceBEq, Nat.reduceSub, Nat.reduceLeDiff, Nat.reduceEqDiff, Nat.reduceMul, Int.reduceToNat, Int.reduceEq, Int.reduceLT, Int.reduceLE, Int.reduceAdd, Int.reduceSub, Int.reduceMul, reduceCtorEq, cond_true, cond_false, forall_eq', forall_eq, forall_const, implies_true, if_true, if_false, exists_eq_left', exists_eq', exists_eq, ne_eq, Try.f6, tb6_17, tb6_18, tb6_19, tb6_21, tb6_20, spLaw_q, spLaw_A, spLaw_pre, spLaw_post, spDCO_q, spDCO_A, spDCO_pre, spDCO_post, spCovOf_q, spCovOf_A, spCovOf_pre, spCovOf_post, spSpV_q, spSpV_A, spSpV_pre, spSpV_post, spSpanC_q, spSpanC_A, spSpanC_pre, spSpanC_post]
    have hB := rows_bd hC.2 i.toNat (by omega)
    have hR := @row_bd L rl c w i hC.2 hinv.1.1
    repeat' (first | apply And.intro | (intro _) | omega | assumption | with_reducible rfl)
  all_goals (first | (exact spV_le _ _ _; done) | (omega; done) | ((have h5 := hR (by omega); omega); done) | ((rw [sumN_step _ hinv.1.1, hinv.2, Int.toNat_of_nonneg hinv.1.1]); done) | ((rw [hinv.2, show i.toNat = 4 by omega, cov_spans hC.2, if_pos hC.1]); done) | ((rw [hinv.2, show i.toNat = 4 by omega, cov_spans hC.2, if_pos hC.1]; simp); done) | (skip; done))
theorem sat_laws_FnSpanCover : Sat Try.prog rt0 6 (wkIn spLaw) := sat_in sat_laws_FnSpanCover_0
end Go.Proofs.Ytcejoknapbhloaa
