/- Contracts of functions of the program vectorraster, each proved for all states that fit its description. No conditions. -/
import Derived.Test.YtcejoknapbhloaaP6L32
set_option maxRecDepth 100000
set_option linter.unusedSimpArgs false
set_option linter.unusedVariables false
namespace Go.Proofs.Ytcejoknapbhloaa
open Go Go.VE
theorem in_1 {l : List Span} {i c : Int} {x : Span} {b : Bool} (hk : l[i.toNat]? = some x) (h0 : 0 ≤ i) (hn : b = (l.take i.toNat).any fun p => decide (p.f ≤ c) && decide (c < p.t)) (hb : b = true) : true = (l.take (i + 1).toNat).any fun p => decide (p.f ≤ c) && decide (c < p.t) := by
  rw [takeN hk h0, List.any_append, ← hn, hb]; rfl
theorem in_2 {l : List Span} {i c : Int} {x : Span} {b : Bool} (hk : l[i.toNat]? = some x) (h0 : 0 ≤ i) (hn : b = (l.take i.toNat).any fun p => decide (p.f ≤ c) && decide (c < p.t)) (hb : b = false) (h : x.f ≤ c) : decide (c < x.t) = (l.take (i + 1).toNat).any fun p => decide (p.f ≤ c) && decide (c < p.t) := by
  rw [takeN hk h0, List.any_append, ← hn, hb]; simp [h]
theorem in_3 {l : List Span} {i c : Int} {x : Span} {b : Bool} (hk : l[i.toNat]? = some x) (h0 : 0 ≤ i) (hn : b = (l.take i.toNat).any fun p => decide (p.f ≤ c) && decide (c < p.t)) (hb : b = false) (h : ¬ x.f ≤ c) : false = (l.take (i + 1).toNat).any fun p => decide (p.f ≤ c) && decide (c < p.t) := by
  rw [takeN hk h0, List.any_append, ← hn, hb]; simp [h]
theorem in_fin {L : List (List Pt)} {rl w c i : Int} {b : Bool} (hv : vRings L = true) (hw1 : ¬ w < 0) (hw2 : ¬ 48 ≤ w) (hc : 0 ≤ c) (hc2 : c < 48) (hn : b = ((spV L rl w).take i.toNat).any fun p => decide (p.f ≤ c) && decide (c < p.t)) (hi : ¬ i < ((spV L rl w).length : Int)) (h : (b == (vRings L && isRl rl && isU (4 * c + 2) && isU (4 * w + 2) && insN (wind L (4 * c + 2) (4 * w + 2)) rl)) = false) : False := by
  have ux : isU (4 * c + 2) = true := by rw [isU_iff]; omega
  have uy : isU (4 * w + 2) = true := by rw [isU_iff]; omega
  rw [List.take_of_length_le (by omega)] at hn
  rw [hv, ux, uy, Int.add_comm (4 * c) 2, Int.add_comm (4 * w) 2] at h
  cases hr : isRl rl with
  | true =>
    rw [spV_in hv hr ⟨by omega, by omega⟩ hc hc2] at hn
    rw [hr, hn] at h
    simp at h
  | false =>
    rw [spV_n2 hr] at hn
    rw [hr, hn] at h
    simp at h
def tb9 : Nat → Option VE.Spec := tabOf [(22, wkIn spDSO), (21, wkIn spSpV), (23, wkIn spEqS), (24, wkIn spSpV), (15, wkIn spVRings), (25, wkIn spIAt)]
theorem tb9_22 : tb9 22 = some (wkIn spDSO) := rfl
theorem tb9_21 : tb9 21 = some (wkIn spSpV) := rfl
theorem tb9_23 : tb9 23 = some (wkIn spEqS) := rfl
theorem tb9_24 : tb9 24 = some (wkIn spSpV) := rfl
theorem tb9_15 : tb9 15 = some (wkIn spVRings) := rfl
theorem tb9_25 : tb9 25 = some (wkIn spIAt) := rfl
theorem tb9_ok : TabOK Try.prog rt0 tb9 := (tabOf_cons (by kernel_rfl) sat_spec_DrawSpansOf (tabOf_cons (by kernel_rfl) sat_impl_SpansOf (tabOf_cons (by kernel_rfl) sat_laws_equalSpans (tabOf_cons (by kernel_rfl) sat_spec_SpansOf (tabOf_cons (by kernel_rfl) sat_impl_ValidRings (tabOf_cons (by kernel_rfl) sat_impl_InsideAt tabOf_nil))))))
set_option maxHeartbeats 4000000 in
theorem sat_laws_FnSpansOf_0 : Sat Try.prog rt0 9 spLaw := by
  refine fn_sat hm ttok (tab := tb9) tb9_ok Try.func9 (c := Try.f9.body.getD .skip) (by kernel_rfl) (ts := [.tmp 2]) (by kernel_rfl) Try.ntmps9 (sq := fun _ => true) (by kernel_rfl) ?_
  intro args ins pk hpre0 hpk
  obtain ⟨rfl, hpre0⟩ := hpre0
  obtain ⟨code, rfl, hpre, hdec⟩ := famPre_ex hpre0
  clear hpre0 hdec
  try simp only [spLaw_pre] at hpre
  replace hpk : pk + 100000 ≤ pickLimit := hpk
  refine ⟨Nat.le_of_ble_eq_true rfl, ?_⟩
  simp (config := { maxSteps := 1000000 }) only [go_sem, ↓ifP_true, ↓ifP_false, ↓ifP_not, Nat.reduceLT, Nat.reduceAdd, Nat.reduceBEq, Nat.reduceSub, Nat.reduceLeDiff, Nat.reduceEqDiff, Nat.reduceMul, Int.reduceToNat, Int.reduceEq, Int.reduceLT, Int.reduceLE, Int.reduceAdd, Int.reduceSub, Int.reduceMul, reduceCtorEq, cond_true, cond_false, forall_eq', forall_eq, forall_const, implies_true, if_true, if_false, exists_eq_left', exists_eq', exists_eq, ne_eq, Try.f9, tb9_22, tb9_21, tb9_23, tb9_24, tb9_15, tb9_25, spLaw_q, spLaw_A, spLaw_pre, spLaw_post, spDSO_q, spDSO_A, spDSO_pre, spDSO_post, spSpV_q, spSpV_A, spSpV_pre, spSpV_post, spEqS_q, spEqS_A, spEqS_pre, spEqS_post, spVRings_q, spVRings_A, spVRings_pre, spVRings_post, spIAt_q, spIAt_A, spIAt_pre, spIAt_post]
  repeat' (first | apply And.intro | (intro _) | omega | assumption | with_reducible rfl)
  any_goals
    rename_i L rl w hL1 hL2 hL3 hv hw1 hw2
    have hCl := spV_len L rl w
    refine loopS (α := Int) false [0, 1, 2, 7, 8, 9, 10, 11, 12, 13, 14, 15, 16, 17, 18, 19, 20, 21, 22, 23, 24, 25, 26, 27, 28, 29, 30, 31, 32, 33, 34, 35, 36, 37, 38, 39, 40, 41, 42, 43, 44, 45, 46, 47, 48, 49, 50, 51, 52, 53, 54, 55, 56, 57, 58, 59, 60, 61, 62, 63, 64, 65, 66, 67, 68, 69, 70, 71, 72, 73, 74, 75, 76, 77, 78, 79, 80, 81, 82, 83, 84, 85, 86, 87, 88] (fun σ => []) (fun σ x => [(7, I x)]) (fun σ x => []) (fun c => 0) (fun σ => gI (σ.get 7)) (fun σ τ => []) (fun c => (0 ≤ c ∧ c ≤ 48)) (fun c => (48 - c).toNat) ⟨by (simp (config := { maxSteps := 1000000 }) only [go_sem, ↓ifP_true, ↓ifP_false, ↓ifP_not, Nat.reduceLT, Nat.reduceAdd, Nat.reduceBEq, Nat.reduceSub, Nat.reduceLeDiff, Nat.reduceEqDiff, Nat.reduceMul, Int.reduceToNat, Int.reduceEq, Int.reduceLT, Int.reduceLE, Int.reduceAdd, Int.reduceSub, Int.reduceMul, reduceCtorEq, cond_true, cond_false, forall_eq', forall_eq, forall_const, implies_true, if_true, if_false, exists_eq_left', exists_eq', exists_eq, ne_eq, Try.f9, tb9_22, tb9_21, tb9_23, tb9_24, tb9_15, tb9_25, spLaw_q, spLaw_A, spLaw_pre, spLaw_post, spDSO_q, spDSO_A, spDSO_pre, spDSO_post, spSpV_q, spSpV_A, spSpV_pre, spSpV_post, spEqS_q, spEqS_A, spEqS_pre, spEqS_post, spVRings_q, spVRings_A, spVRings_pre, spVRings_post, spIAt_q, spIAt_A, spIAt_pre, spIAt_post]; (repeat' (first | apply And.intro | (intro _) | omega | assumption | with_reducible rfl)); all_goals (first | rfl)), ?_⟩
    rintro c hinv
    try dsimp only at hinv
    simp (config := { maxSteps := 1000000 }) only [go_sem, ↓ifP_true, ↓ifP_false, ↓ifP_not, Nat.reduceLT, Nat.reduceAdd, Nat.reduceBEq, Nat.reduceSub, Nat.reduceLeDiff, Nat.reduceEqDiff, Nat.reduceMul, Int.reduceToNat, Int.reduceEq, Int.reduceLT, Int.reduceLE, Int.reduceAdd, Int.reduceSub, Int.reduceMul, reduceCtorEq, cond_true, cond_false, forall_eq', forall_eq, forall_const, implies_true, if_true, if_false, exists_eq_left', exists_eq', exists_eq, ne_eq, Try.f9, tb9_22, tb9_21, tb9_23, tb9_24, tb9_15, tb9_25, spLaw_q, spLaw_A, spLaw_pre, spLaw_post, spDSO_q, spDSO_A, spDSO_pre, spDSO_post, spSpV_q, spSpV_A, spSpV_pre, spSpV_post, spEqS_q, spEqS_A, spEqS_pre, spEqS_post, spVRings_q, spVRings_A, spVRings_pre, spVRings_post, spIAt_q, spIAt_A, spIAt_pre, spIAt_post]
    repeat' (first | apply And.intro | (intro _) | omega | assumption | with_reducible rfl)
  any_goals
    have hcc := hinv
    refine loopS (α := Bool × Int) false [0, 1, 8, 9, 10, 11, 12, 13, 14, 15, 16, 17, 18, 19, 20, 21, 22, 23, 24, 25, 26, 27, 28, 29, 30, 31, 32, 33, 34, 35, 36, 37, 38, 39, 40, 41, 42, 43, 44, 45, 46, 47, 48, 49, 50, 51, 52, 53, 54, 55, 56, 57, 58, 59, 60, 61, 62, 63, 64, 65, 66, 67, 68, 69, 70, 71, 72, 73, 74, 75, 76, 77, 88] (fun σ => []) (fun σ x => [(8, B x.1), (9, I x.2)]) (fun σ x => []) (fun (b, i) => 0) (fun σ => (gBo (σ.get 8), gI (σ.get 9))) (fun σ τ => []) (fun (b, i) => (0 ≤ i ∧ i ≤ (spV L rl w).length) ∧ b = (((spV L rl w).take i.toNat).any fun p => decide (p.f ≤ c) && decide (c < p.t))) (fun (b, i) => ((spV L rl w).length - i).toNat) ⟨by (simp (config := { maxSteps := 1000000 }) only [go_sem, ↓ifP_true, ↓ifP_false, ↓ifP_not, Nat.reduceLT, Nat.reduceAdd, Nat.reduceBEq, Nat.reduceSub, Nat.reduceLeDiff, Nat.reduceEqDiff, Nat.reduceMul, Int.reduceToNat, Int.reduceEq, Int.reduceLT, Int.reduceLE, Int.reduceAdd, Int.reduceSub, Int.reduceMul, reduceCtorEq, cond_true, cond_false, forall_eq', forall_eq, forall_const, implies_true, if_true, if_false, exists_eq_left', exists_eq', exists_eq, ne_eq, Try.f9, tb9_22, tb9_21, tb9_23, tb9_24, tb9_15, tb9_25, spLaw_q, spLaw_A, spLaw_pre, spLaw_post, spDSO_q, spDSO_A, spDSO_pre, spDSO_post, spSpV_q, spSpV_A, spSpV_pre, spSpV_post, spEqS_q, spEqS_A, spEqS_pre, spEqS_post, spVRings_q, spVRings_A, spVRings_pre, spVRings_post, spIAt_q, spIAt_A, spIAt_pre, spIAt_post]; (repeat' (first | apply And.intro | (intro _) | omega | assumption | with_reducible rfl)); all_goals (first | rfl)), ?_⟩
    rintro ⟨b, i⟩ hinv
    try dsimp only at hinv
    rcases elemAt (spV L rl w) i (by omega) with ⟨hlt, x, hk⟩ | hlt
    all_goals (first | ((have hlt2 := of_eq_true hlt); all_goals simp (config := { maxSteps := 1000000 }) only [go_sem, ↓ifP_true, ↓ifP_false, ↓ifP_not, Nat.reduceLT, Nat.reduceAdd, Nat.reduceBEq, Nat.reduceSub, Nat.reduceLeDiff, Nat.reduceEqDiff, Nat.reduceMul, Int.reduceToNat, Int.reduceEq, Int.reduceLT, Int.reduceLE, Int.reduceAdd, Int.reduceSub, Int.reduceMul, reduceCtorEq, cond_true, cond_false, forall_eq', forall_eq, forall_const, implies_true, if_true, if_false, exists_eq_left', exists_eq', exists_eq, ne_eq, Try.f9, tb9_22, tb9_21, tb9_23, tb9_24, tb9_15, tb9_25, spLaw_q, spLaw_A, spLaw_pre, spLaw_post, spDSO_q, spDSO_A, spDSO_pre, spDSO_post, spSpV_q, spSpV_A, spSpV_pre, spSpV_post, spEqS_q, spEqS_A, spEqS_pre, spEqS_post, spVRings_q, spVRings_A, spVRings_pre, spVRings_post, spIAt_q, spIAt_A, spIAt_pre, spIAt_post, hlt, hk]) | (have hlt2 := of_eq_false hlt; simp (config := { maxSteps := 1000000 }) only [go_sem, ↓ifP_true, ↓ifP_false, ↓ifP_not, Nat.reduceLT, Nat.reduceAdd, Nat.reduceBEq, Nat.reduceSub, Nat.reduceLeDiff, Nat.reduceEqDiff, Nat.reduceMul, Int.reduceToNat, Int.reduceEq, Int.reduceLT, Int.reduceLE, Int.reduceAdd, Int.reduceSub, Int.reduceMul, reduceCtorEq, cond_true, cond_false, forall_eq', forall_eq, forall_const, implies_true, if_true, if_false, exists_eq_left', exists_eq', exists_eq, ne_eq, Try.f9, tb9_22, tb9_21, tb9_23, tb9_24, tb9_15, tb9_25, spLaw_q, spLaw_A, spLaw_pre, spLaw_post, spDSO_q, spDSO_A, spDSO_pre, spDSO_post, spSpV_q, spSpV_A, spSpV_pre, spSpV_post, spEqS_q, spEqS_A, spEqS_pre, spEqS_post, spVRings_q, spVRings_A, spVRings_pre, spVRings_post, spIAt_q, spIAt_A, spIAt_pre, spIAt_post, hlt]))
    all_goals
    repeat' (first | apply And.intro | (intro _) | omega | assumption | with_reducible rfl)
  all_goals (first | (exact spV_le _ _ _; done) | (omega; done) | (exact in_1 hk hinv.1.1 hinv.2 ‹_›; done) | (exact in_2 hk hinv.1.1 hinv.2 ‹_› ‹_›; done) | (exact in_3 hk hinv.1.1 hinv.2 ‹_› ‹_›; done) | (exact in_fin hv hw1 hw2 hcc.1 ‹c < 48› hinv.2 hlt2 ‹_›; done) | (skip; done))
theorem sat_laws_FnSpansOf : Sat Try.prog rt0 9 (wkIn spLaw) := sat_in sat_laws_FnSpansOf_0
end Go.Proofs.Ytcejoknapbhloaa
