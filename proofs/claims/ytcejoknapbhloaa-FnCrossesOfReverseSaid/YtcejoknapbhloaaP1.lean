/- Contracts of functions of the program vectorraster, each proved for all states that fit its description. No conditions. -/
import Derived.Test.YtcejoknapbhloaaP0
import Derived.Test.YtcejoknapbhloaaPC
set_option linter.unusedSimpArgs false
set_option linter.unusedVariables false
section
set_option maxRecDepth 100000
set_option linter.unusedSimpArgs false
set_option linter.unusedVariables false
namespace Go.Proofs.Ytcejoknapbhloaa
open Go Go.VE
def spFst2_A : Pt × Pt × Int → List AV
  | (a, b, y) => [.agg (ptC a), .agg (ptC b), I y]
def spFst2_pre : Pt × Pt × Int → Prop
  | (a, b, y) => okP a ∧ okP b ∧ (-3000 ≤ y ∧ y ≤ 3000) ∧ ¬ stepE ⟨a, b⟩ y = 0
def spFst2_post : Pt × Pt × Int → AV → List Box → Prop
  | (a, b, y), r, bs => r = I (firstS ⟨a, b⟩ y) ∧ bs = []
def spFst2 : VE.Spec := famSpec spFst2_A d_pt_pt_i spFst2_pre spFst2_post 0 true
theorem spFst2_q : spFst2.flat = true ∧ spFst2.mt = [] ∧ spFst2.shut = false ∧ spFst2.cost = 0 ∧ (∀ a i, spFst2.pre a i = (i = [] ∧ famPre d_pt_pt_i spFst2_A spFst2_pre a)) ∧ ∀ a i r b, spFst2.post a i r b = (famPost d_pt_pt_i spFst2_post a r b) := ⟨rfl, rfl, rfl, rfl, fun _ _ => rfl, fun _ _ _ _ => rfl⟩
def tb62 : Nat → Option VE.Spec := tabOf [(76, wkIn spStepOf)]
theorem tb62_76 : tb62 76 = some (wkIn spStepOf) := rfl
theorem tb62_ok : TabOK Try.prog rt0 tb62 := (tabOf_cons (by kernel_rfl) sat_spec_stepOf tabOf_nil)
set_option maxHeartbeats 4000000 in
theorem sat_spec_firstSample_0 : Sat Try.prog rt0 62 (wkOut spFst2) := by
  refine fn_sat hm ttok (tab := tb62) tb62_ok Try.func62 (c := Try.f62.body.getD .skip) (by kernel_rfl) (ts := [.tmp 6]) (by kernel_rfl) Try.ntmps62 (sq := fun _ => true) (by kernel_rfl) ?_
  intro args ins pk hpre0 hpk
  obtain ⟨rfl, hpre0⟩ := hpre0
  obtain ⟨⟨a, b, y⟩, rfl, hpre, hdec⟩ := famPre_ex hpre0
  clear hpre0 hdec
  try simp only [spFst2_pre] at hpre
  replace hpk : pk + 0 ≤ pickLimit := hpk
  refine ⟨Nat.le_of_ble_eq_true rfl, ?_⟩
  simp (config := { maxSteps := 1000000 }) only [go_sem, ↓ifP_true, ↓ifP_false, ↓ifP_not, Nat.reduceLT, Nat.reduceAdd, Nat.reduceBEq, Nat.reduceSub, Nat.reduceLeDiff, Nat.reduceEqDiff, Nat.reduceMul, Int.reduceToNat, Int.reduceEq, Int.reduceLT, Int.reduceLE, Int.reduceAdd, Int.reduceSub, Int.reduceMul, reduceCtorEq, cond_true, cond_false, forall_eq', forall_eq, forall_const, implies_true, if_true, if_false, exists_eq_left', exists_eq', exists_eq, ne_eq, Try.f62, tb62_76, spFst2_q, spFst2_A, spFst2_pre, spFst2_post, spStepOf_q, spStepOf_A, spStepOf_pre, spStepOf_post]
  repeat' (first | apply And.intro | (intro _) | omega | assumption | with_reducible rfl)
  refine loopS (α := Int) false [0, 1, 5, 7, 8, 9, 10, 11, 12, 13, 14, 15, 16, 17, 18, 19, 20, 21] (fun σ => []) (fun σ x => [(7, I x)]) (fun σ x => []) (fun n => 0) (fun σ => gI (σ.get 7)) (fun σ τ => []) (fun n => (0 ≤ n ∧ n ≤ 48) ∧ noL ⟨a, b⟩ y n.toNat = true) (fun n => (48 - n).toNat) ⟨by (simp (config := { maxSteps := 1000000 }) only [go_sem, ↓ifP_true, ↓ifP_false, ↓ifP_not, Nat.reduceLT, Nat.reduceAdd, Nat.reduceBEq, Nat.reduceSub, Nat.reduceLeDiff, Nat.reduceEqDiff, Nat.reduceMul, Int.reduceToNat, Int.reduceEq, Int.reduceLT, Int.reduceLE, Int.reduceAdd, Int.reduceSub, Int.reduceMul, reduceCtorEq, cond_true, cond_false, forall_eq', forall_eq, forall_const, implies_true, if_true, if_false, exists_eq_left', exists_eq', exists_eq, ne_eq, Try.f62, tb62_76, spFst2_q, spFst2_A, spFst2_pre, spFst2_post, spStepOf_q, spStepOf_A, spStepOf_pre, spStepOf_post]; (repeat' (first | apply And.intro | (intro _) | omega | assumption | with_reducible rfl)); all_goals (first | rfl)), ?_⟩
  rintro n hinv
  try dsimp only at hinv
  simp (config := { maxSteps := 1000000 }) only [go_sem, ↓ifP_true, ↓ifP_false, ↓ifP_not, Nat.reduceLT, Nat.reduceAdd, Nat.reduceBEq, Nat.reduceSub, Nat.reduceLeDiff, Nat.reduceEqDiff, Nat.reduceMul, Int.reduceToNat, Int.reduceEq, Int.reduceLT, Int.reduceLE, Int.reduceAdd, Int.reduceSub, Int.reduceMul, reduceCtorEq, cond_true, cond_false, forall_eq', forall_eq, forall_const, implies_true, if_true, if_false, exists_eq_left', exists_eq', exists_eq, ne_eq, Try.f62, tb62_76, spFst2_q, spFst2_A, spFst2_pre, spFst2_post, spStepOf_q, spStepOf_A, spStepOf_pre, spStepOf_post]
  repeat' (first | apply And.intro | (intro _) | omega | assumption | with_reducible rfl)
  all_goals (first | (exact hpre.1; done) | (exact hpre.2.1; done) | (exact noL_step hinv.1.1 hinv.2 (con_left hpre.2.2.2 (by rw [Int.add_comm]; assumption)); done) | (exact (firstS_fin hinv.1.1 hinv.1.2 hinv.2 (.inl (by omega))).symm; done) | (exact (firstS_fin hinv.1.1 hinv.1.2 hinv.2 (.inr (con_left2 (by rw [Int.add_comm]; assumption)))).symm; done) | (skip; done))
theorem sat_spec_firstSample : Sat Try.prog rt0 62 (wkIn spFst2) := sat_in (sat_out sat_spec_firstSample_0)
def tb75 : Nat → Option VE.Spec := tabOf []
theorem tb75_ok : TabOK Try.prog rt0 tb75 := tabOf_nil
set_option maxHeartbeats 4000000 in
theorem sat_spec_before_0 : Sat Try.prog rt0 75 (wkOut spBf) := by
  refine fn_sat hm ttok (tab := tb75) tb75_ok Try.func75 (c := Try.f75.body.getD .skip) (by kernel_rfl) (ts := [.tmp 4]) (by kernel_rfl) Try.ntmps75 (sq := fun _ => true) (by kernel_rfl) ?_
  intro args ins pk hpre0 hpk
  obtain ⟨rfl, hpre0⟩ := hpre0
  obtain ⟨⟨a, b⟩, rfl, hpre, hdec⟩ := famPre_ex hpre0
  clear hpre0 hdec
  try simp only [spBf_pre] at hpre
  replace hpk : pk + 0 ≤ pickLimit := hpk
  refine ⟨Nat.le_of_ble_eq_true rfl, ?_⟩
  simp (config := { maxSteps := 1000000 }) only [go_sem, ↓ifP_true, ↓ifP_false, ↓ifP_not, Nat.reduceLT, Nat.reduceAdd, Nat.reduceBEq, Nat.reduceSub, Nat.reduceLeDiff, Nat.reduceEqDiff, Nat.reduceMul, Int.reduceToNat, Int.reduceEq, Int.reduceLT, Int.reduceLE, Int.reduceAdd, Int.reduceSub, Int.reduceMul, reduceCtorEq, cond_true, cond_false, forall_eq', forall_eq, forall_const, implies_true, if_true, if_false, exists_eq_left', exists_eq', exists_eq, ne_eq, Try.f75, spBf_q, spBf_A, spBf_pre, spBf_post]
  repeat' (first | apply And.intro | (intro _) | omega | assumption | with_reducible rfl)
  all_goals (first | ((simp only [bf]; grind); done) | ((simp_all [bf]; done); done) | (grind [bf]; done))
theorem sat_spec_before : Sat Try.prog rt0 75 (wkIn spBf) := sat_in (sat_out sat_spec_before_0)
end Go.Proofs.Ytcejoknapbhloaa
end
section
set_option maxRecDepth 100000
set_option linter.unusedSimpArgs false
set_option linter.unusedVariables false
namespace Go.Proofs.Ytcejoknapbhloaa
open Go Go.VE
def spPlc2_A : (List Cross) × Cross → List AV
  | (l, c) => [.c (.sl false (l.map crC)), .agg (crC c)]
def spPlc2_pre : (List Cross) × Cross → Prop
  | (l, c) => l.length ≤ 1000000 ∧ OrdC l
def spPlc2_post : (List Cross) × Cross → AV → List Box → Prop
  | (l, c), r, bs => r = .c (.own 0 (srt (l ++ [c])).length false) ∧ bs = [⟨(srt (l ++ [c])).map crC, 2, 30, true, false⟩]
def spPlc2 : VE.Spec := famSpec spPlc2_A d_lcr_cr spPlc2_pre spPlc2_post 0 true
theorem spPlc2_q : spPlc2.flat = true ∧ spPlc2.mt = [] ∧ spPlc2.shut = false ∧ spPlc2.cost = 0 ∧ (∀ a i, spPlc2.pre a i = (i = [] ∧ famPre d_lcr_cr spPlc2_A spPlc2_pre a)) ∧ ∀ a i r b, spPlc2.post a i r b = (famPost d_lcr_cr spPlc2_post a r b) := ⟨rfl, rfl, rfl, rfl, fun _ _ => rfl, fun _ _ _ _ => rfl⟩
theorem plc_len {l : List Cross} {c : Cross} {k : Int} (hs : OrdC l) (hk : 0 ≤ k ∧ k ≤ l.length) (h : tlB l c k.toNat = true) (hd : k = 0 ∨ ∃ y, l[(k - 1).toNat]? = some y ∧ bf c y = false) {o : List Cross} (ho : o = l.take k.toNat ++ c :: l.drop k.toNat) : o = srt (l ++ [c]) := ho.trans (place_fin hs hk h hd)
def tb61 : Nat → Option VE.Spec := tabOf [(75, wkIn spBf)]
theorem tb61_75 : tb61 75 = some (wkIn spBf) := rfl
theorem tb61_ok : TabOK Try.prog rt0 tb61 := (tabOf_cons (by kernel_rfl) sat_spec_before tabOf_nil)
set_option maxHeartbeats 4000000 in
theorem sat_spec_place_0 : Sat Try.prog rt0 61 (wkOut spPlc2) := by
  refine fn_sat hm ttok (tab := tb61) tb61_ok Try.func61 (c := Try.f61.body.getD .skip) (by kernel_rfl) (ts := [.tmp 4]) (by kernel_rfl) Try.ntmps61 (sq := fun id => !(id == 1)) (by kernel_rfl) ?_
  intro args ins pk hpre0 hpk
  obtain ⟨rfl, hpre0⟩ := hpre0
  obtain ⟨⟨l, c⟩, rfl, hpre, hdec⟩ := famPre_ex hpre0
  clear hpre0 hdec
  try simp only [spPlc2_pre] at hpre
  replace hpk : pk + 0 ≤ pickLimit := hpk
  refine ⟨Nat.le_of_ble_eq_true rfl, ?_⟩
  simp (config := { maxSteps := 1000000 }) only [go_sem, ↓ifP_true, ↓ifP_false, ↓ifP_not, Nat.reduceLT, Nat.reduceAdd, Nat.reduceBEq, Nat.reduceSub, Nat.reduceLeDiff, Nat.reduceEqDiff, Nat.reduceMul, Int.reduceToNat, Int.reduceEq, Int.reduceLT, Int.reduceLE, Int.reduceAdd, Int.reduceSub, Int.reduceMul, reduceCtorEq, cond_true, cond_false, forall_eq', forall_eq, forall_const, implies_true, if_true, if_false, exists_eq_left', exists_eq', exists_eq, ne_eq, Try.f61, tb61_75, spPlc2_q, spPlc2_A, spPlc2_pre, spPlc2_post, spBf_q, spBf_A, spBf_pre, spBf_post]
  repeat' (first | apply And.intro | (intro _) | omega | assumption | with_reducible rfl)
  all_goals try (refine drawI (VE.Plan.first 1 (VE.Plan.alt 0 (VE.Plan.alt 2 (VE.Plan.first 3 (VE.Plan.alt 4 (VE.Plan.alt 5 (VE.Plan.alt 6 VE.Plan.nil VE.Plan.nil) VE.Plan.nil) VE.Plan.nil)) (VE.Plan.alt 3 (VE.Plan.alt 2 (VE.Plan.alt 4 (VE.Plan.alt 5 (VE.Plan.alt 6 VE.Plan.nil VE.Plan.nil) VE.Plan.nil) VE.Plan.nil) (VE.Plan.alt 4 (VE.Plan.alt 2 (VE.Plan.alt 5 (VE.Plan.alt 6 VE.Plan.nil VE.Plan.nil) VE.Plan.nil) VE.Plan.nil) VE.Plan.nil)) VE.Plan.nil)) (VE.Plan.alt 3 (VE.Plan.alt 0 (VE.Plan.alt 2 (VE.Plan.alt 4 (VE.Plan.alt 5 (VE.Plan.alt 6 VE.Plan.nil VE.Plan.nil) VE.Plan.nil) VE.Plan.nil) (VE.Plan.alt 4 (VE.Plan.alt 2 (VE.Plan.alt 5 (VE.Plan.alt 6 VE.Plan.nil VE.Plan.nil) VE.Plan.nil) VE.Plan.nil) VE.Plan.nil)) (VE.Plan.alt 4 (VE.Plan.alt 0 (VE.Plan.alt 2 (VE.Plan.alt 5 (VE.Plan.alt 6 VE.Plan.nil VE.Plan.nil) VE.Plan.nil) VE.Plan.nil) VE.Plan.nil) VE.Plan.nil)) VE.Plan.nil))) (by decide +kernel) ?_; simp (config := { maxSteps := 1000000 }) only [go_sem, ↓ifP_true, ↓ifP_false, ↓ifP_not, Nat.reduceLT, Nat.reduceAdd, Nat.reduceBEq, Nat.reduceSub, Nat.reduceLeDiff, Nat.reduceEqDiff, Nat.reduceMul, Int.reduceToNat, Int.reduceEq, Int.reduceLT, Int.reduceLE, Int.reduceAdd, Int.reduceSub, Int.reduceMul, reduceCtorEq, cond_true, cond_false, forall_eq', forall_eq, forall_const, implies_true, if_true, if_false, exists_eq_left', exists_eq', exists_eq, ne_eq, planW, stepW, Try.f61, tb61_75, spPlc2_q, spPlc2_A, spPlc2_pre, spPlc2_post, spBf_q, spBf_A, spBf_pre, spBf_post]; repeat' (first | apply And.intro | (intro _) | omega | assumption | with_reducible rfl))
  any_goals
    refine loopS (α := (List Cross) × Int) false [0, 1, 2, 3, 6, 7, 8, 9, 10, 11, 12, 13, 14, 15, 16, 17, 18, 19, 20, 21, 22, 23, 24, 25, 26, 27, 28, 29, 30, 31, 32, 33, 34, 35, 36, 37, 38, 39, 40, 41, 42, 43, 44, 45, 46, 47, 48, 49] (fun σ => [gId (σ.get 5)]) (fun σ x => [(5, .c (.own (gId (σ.get 5)) (x.1).length false)), (6, I x.2)]) (fun σ x => [(gId (σ.get 5), some ⟨(x.1).map crC, 2, 30, true, false⟩)]) (fun (o, k) => 0) (fun σ => (gL crCd σ (σ.get 5), gI (σ.get 6))) (fun σ τ => [(gId (σ.get 5), gId (τ.get 5))]) (fun (o, k) => (0 ≤ k ∧ k ≤ l.length) ∧ o = l.take k.toNat ++ c :: l.drop k.toNat ∧ tlB l c k.toNat = true) (fun (o, k) => k.toNat) ⟨by (simp (config := { maxSteps := 1000000 }) only [go_sem, ↓ifP_true, ↓ifP_false, ↓ifP_not, Nat.reduceLT, Nat.reduceAdd, Nat.reduceBEq, Nat.reduceSub, Nat.reduceLeDiff, Nat.reduceEqDiff, Nat.reduceMul, Int.reduceToNat, Int.reduceEq, Int.reduceLT, Int.reduceLE, Int.reduceAdd, Int.reduceSub, Int.reduceMul, reduceCtorEq, cond_true, cond_false, forall_eq', forall_eq, forall_const, implies_true, if_true, if_false, exists_eq_left', exists_eq', exists_eq, ne_eq, Try.f61, tb61_75, spPlc2_q, spPlc2_A, spPlc2_pre, spPlc2_post, spBf_q, spBf_A, spBf_pre, spBf_post, cr_set, cr_set2, List.length_set]; (repeat' (first | apply And.intro | (intro _) | omega | assumption | with_reducible rfl)); all_goals (first | (rw [show ((l.length + 1 : Nat) : Int) - 1 = (l.length : Int) by omega, Int.toNat_natCast]; simp; done) | (rw [show ((l.length + 1 : Nat) : Int) - 1 = (l.length : Int) by omega, Int.toNat_natCast]; exact tlB_end))), ?_⟩
    rintro ⟨o, k⟩ hinv
    try dsimp only at hinv
    rcases elemAt o k (by omega) with ⟨hlt, x, hk⟩ | hlt
    all_goals (first | ((have hlt2 := of_eq_true hlt); (have hl := ins_l l c k.toNat); (rw [← hinv.2.1] at hl); (obtain rfl := ins_c hinv.2.1 (by omega) hk); (have hset := set_same' hk); (rcases ins_all hinv.2.1 hinv.1.2 with ⟨hpos, y, hy, hy2, hoth, hsw⟩ | hneg); all_goals (first | simp (config := { maxSteps := 1000000 }) only [go_sem, ↓ifP_true, ↓ifP_false, ↓ifP_not, Nat.reduceLT, Nat.reduceAdd, Nat.reduceBEq, Nat.reduceSub, Nat.reduceLeDiff, Nat.reduceEqDiff, Nat.reduceMul, Int.reduceToNat, Int.reduceEq, Int.reduceLT, Int.reduceLE, Int.reduceAdd, Int.reduceSub, Int.reduceMul, reduceCtorEq, cond_true, cond_false, forall_eq', forall_eq, forall_const, implies_true, if_true, if_false, exists_eq_left', exists_eq', exists_eq, ne_eq, Try.f61, tb61_75, spPlc2_q, spPlc2_A, spPlc2_pre, spPlc2_post, spBf_q, spBf_A, spBf_pre, spBf_post, cr_set, cr_set2, List.length_set, hlt, hk, hy2, hset, hoth] | simp (config := { maxSteps := 1000000 }) only [go_sem, ↓ifP_true, ↓ifP_false, ↓ifP_not, Nat.reduceLT, Nat.reduceAdd, Nat.reduceBEq, Nat.reduceSub, Nat.reduceLeDiff, Nat.reduceEqDiff, Nat.reduceMul, Int.reduceToNat, Int.reduceEq, Int.reduceLT, Int.reduceLE, Int.reduceAdd, Int.reduceSub, Int.reduceMul, reduceCtorEq, cond_true, cond_false, forall_eq', forall_eq, forall_const, implies_true, if_true, if_false, exists_eq_left', exists_eq', exists_eq, ne_eq, Try.f61, tb61_75, spPlc2_q, spPlc2_A, spPlc2_pre, spPlc2_post, spBf_q, spBf_A, spBf_pre, spBf_post, cr_set, cr_set2, List.length_set, hlt, hk])) | (have hlt2 := of_eq_false hlt; (first | simp (config := { maxSteps := 1000000 }) only [go_sem, ↓ifP_true, ↓ifP_false, ↓ifP_not, Nat.reduceLT, Nat.reduceAdd, Nat.reduceBEq, Nat.reduceSub, Nat.reduceLeDiff, Nat.reduceEqDiff, Nat.reduceMul, Int.reduceToNat, Int.reduceEq, Int.reduceLT, Int.reduceLE, Int.reduceAdd, Int.reduceSub, Int.reduceMul, reduceCtorEq, cond_true, cond_false, forall_eq', forall_eq, forall_const, implies_true, if_true, if_false, exists_eq_left', exists_eq', exists_eq, ne_eq, Try.f61, tb61_75, spPlc2_q, spPlc2_A, spPlc2_pre, spPlc2_post, spBf_q, spBf_A, spBf_pre, spBf_post, cr_set, cr_set2, List.length_set, hlt, hy2, hset, hoth] | simp (config := { maxSteps := 1000000 }) only [go_sem, ↓ifP_true, ↓ifP_false, ↓ifP_not, Nat.reduceLT, Nat.reduceAdd, Nat.reduceBEq, Nat.reduceSub, Nat.reduceLeDiff, Nat.reduceEqDiff, Nat.reduceMul, Int.reduceToNat, Int.reduceEq, Int.reduceLT, Int.reduceLE, Int.reduceAdd, Int.reduceSub, Int.reduceMul, reduceCtorEq, cond_true, cond_false, forall_eq', forall_eq, forall_const, implies_true, if_true, if_false, exists_eq_left', exists_eq', exists_eq, ne_eq, Try.f61, tb61_75, spPlc2_q, spPlc2_A, spPlc2_pre, spPlc2_post, spBf_q, spBf_A, spBf_pre, spBf_post, cr_set, cr_set2, List.length_set, hlt])))
    all_goals
      repeat' (first | apply And.intro | (intro _) | omega | assumption | with_reducible rfl)
    all_goals try (refine drawI (VE.Plan.first 1 (VE.Plan.alt 0 (VE.Plan.alt 2 (VE.Plan.first 3 (VE.Plan.alt 4 (VE.Plan.alt 5 (VE.Plan.alt 6 VE.Plan.nil VE.Plan.nil) VE.Plan.nil) VE.Plan.nil)) (VE.Plan.alt 3 (VE.Plan.alt 2 (VE.Plan.alt 4 (VE.Plan.alt 5 (VE.Plan.alt 6 VE.Plan.nil VE.Plan.nil) VE.Plan.nil) VE.Plan.nil) (VE.Plan.alt 4 (VE.Plan.alt 2 (VE.Plan.alt 5 (VE.Plan.alt 6 VE.Plan.nil VE.Plan.nil) VE.Plan.nil) VE.Plan.nil) VE.Plan.nil)) VE.Plan.nil)) (VE.Plan.alt 3 (VE.Plan.alt 0 (VE.Plan.alt 2 (VE.Plan.alt 4 (VE.Plan.alt 5 (VE.Plan.alt 6 VE.Plan.nil VE.Plan.nil) VE.Plan.nil) VE.Plan.nil) (VE.Plan.alt 4 (VE.Plan.alt 2 (VE.Plan.alt 5 (VE.Plan.alt 6 VE.Plan.nil VE.Plan.nil) VE.Plan.nil) VE.Plan.nil) VE.Plan.nil)) (VE.Plan.alt 4 (VE.Plan.alt 0 (VE.Plan.alt 2 (VE.Plan.alt 5 (VE.Plan.alt 6 VE.Plan.nil VE.Plan.nil) VE.Plan.nil) VE.Plan.nil) VE.Plan.nil) VE.Plan.nil)) VE.Plan.nil))) (by decide +kernel) ?_; (first | simp (config := { maxSteps := 1000000 }) only [go_sem, ↓ifP_true, ↓ifP_false, ↓ifP_not, Nat.reduceLT, Nat.reduceAdd, Nat.reduceBEq, Nat.reduceSub, Nat.reduceLeDiff, Nat.reduceEqDiff, Nat.reduceMul, Int.reduceToNat, Int.reduceEq, Int.reduceLT, Int.reduceLE, Int.reduceAdd, Int.reduceSub, Int.reduceMul, reduceCtorEq, cond_true, cond_false, forall_eq', forall_eq, forall_const, implies_true, if_true, if_false, exists_eq_left', exists_eq', exists_eq, ne_eq, planW, stepW, Try.f61, tb61_75, spPlc2_q, spPlc2_A, spPlc2_pre, spPlc2_post, spBf_q, spBf_A, spBf_pre, spBf_post, hlt, hk, hy2, hset, hoth] | simp (config := { maxSteps := 1000000 }) only [go_sem, ↓ifP_true, ↓ifP_false, ↓ifP_not, Nat.reduceLT, Nat.reduceAdd, Nat.reduceBEq, Nat.reduceSub, Nat.reduceLeDiff, Nat.reduceEqDiff, Nat.reduceMul, Int.reduceToNat, Int.reduceEq, Int.reduceLT, Int.reduceLE, Int.reduceAdd, Int.reduceSub, Int.reduceMul, reduceCtorEq, cond_true, cond_false, forall_eq', forall_eq, forall_const, implies_true, if_true, if_false, exists_eq_left', exists_eq', exists_eq, ne_eq, planW, stepW, Try.f61, tb61_75, spPlc2_q, spPlc2_A, spPlc2_pre, spPlc2_post, spBf_q, spBf_A, spBf_pre, spBf_post, hlt, hk] | simp (config := { maxSteps := 1000000 }) only [go_sem, ↓ifP_true, ↓ifP_false, ↓ifP_not, Nat.reduceLT, Nat.reduceAdd, Nat.reduceBEq, Nat.reduceSub, Nat.reduceLeDiff, Nat.reduceEqDiff, Nat.reduceMul, Int.reduceToNat, Int.reduceEq, Int.reduceLT, Int.reduceLE, Int.reduceAdd, Int.reduceSub, Int.reduceMul, reduceCtorEq, cond_true, cond_false, forall_eq', forall_eq, forall_const, implies_true, if_true, if_false, exists_eq_left', exists_eq', exists_eq, ne_eq, planW, stepW, Try.f61, tb61_75, spPlc2_q, spPlc2_A, spPlc2_pre, spPlc2_post, spBf_q, spBf_A, spBf_pre, spBf_post]); repeat' (first | apply And.intro | (intro _) | omega | assumption | with_reducible rfl))
  
  all_goals (first | (exact tlB_step hpos hy hinv.2.2 ‹_›; done) | (exact plc_len hpre.2 hinv.1 hinv.2.2 (.inr ⟨y, hy, ‹_›⟩) hinv.2.1; done) | (exact plc_len hpre.2 hinv.1 hinv.2.2 (.inl (by omega)) hinv.2.1; done) | (exact congrArg (List.map crC) (plc_len hpre.2 hinv.1 hinv.2.2 (.inr ⟨y, hy, ‹_›⟩) hinv.2.1); done) | (exact congrArg (List.map crC) (plc_len hpre.2 hinv.1 hinv.2.2 (.inl (by omega)) hinv.2.1); done) | (exact congrArg List.length (plc_len hpre.2 hinv.1 hinv.2.2 (.inr ⟨y, hy, ‹_›⟩) hinv.2.1); done) | (exact congrArg List.length (plc_len hpre.2 hinv.1 hinv.2.2 (.inl (by omega)) hinv.2.1); done) | ((have hl := ins_l l c k.toNat; rw [← hinv.2.1] at hl; exfalso; omega); done) | ((exfalso; omega); done) | (skip; done))
theorem sat_spec_place : Sat Try.prog rt0 61 (wkIn spPlc2) := sat_in (sat_out sat_spec_place_0)
end Go.Proofs.Ytcejoknapbhloaa
end
section
set_option maxRecDepth 100000
set_option linter.unusedSimpArgs false
set_option linter.unusedVariables false
namespace Go.Proofs.Ytcejoknapbhloaa
open Go Go.VE
def spCrs2_A : (List (List Pt)) × Int → List AV
  | (L, y) => [.c (.sl false (L.map lptC)), I y]
def spCrs2_pre : (List (List Pt)) × Int → Prop
  | (L, y) => vRings L = true ∧ -3000 ≤ y ∧ y ≤ 3000
def spCrs2_post : (List (List Pt)) × Int → AV → List Box → Prop
  | (L, y), r, bs => r = .c (.own 0 (crS L y).length false) ∧ bs = [⟨(crS L y).map crC, 2, 30, true, false⟩]
def spCrs2 : VE.Spec := famSpec spCrs2_A d_llpt_i spCrs2_pre spCrs2_post 0 true
theorem spCrs2_q : spCrs2.flat = true ∧ spCrs2.mt = [] ∧ spCrs2.shut = false ∧ spCrs2.cost = 0 ∧ (∀ a i, spCrs2.pre a i = (i = [] ∧ famPre d_llpt_i spCrs2_A spCrs2_pre a)) ∧ ∀ a i r b, spCrs2.post a i r b = (famPost d_llpt_i spCrs2_post a r b) := ⟨rfl, rfl, rfl, rfl, fun _ _ => rfl, fun _ _ _ _ => rfl⟩
theorem crs_ln {o : List Cross} {A : List Edge} {y : Int} (h : o = srt (crOf A y)) : o.length ≤ A.length := by rw [h, srt_len]; exact crOf_len _ _
theorem crs_0 {o : List Cross} {A : List Edge} {e : Edge} {y : Int} (h : o = srt (crOf A y)) (hs : stepE e y = 0) : o = srt (crOf (A ++ [e]) y) := by rw [h]; exact crOf_0 hs
theorem crs_1 {o : List Cross} {A : List Edge} {e : Edge} {y : Int} {c : Cross} (h : o = srt (crOf A y)) (hs : ¬ stepE e y = 0) (hc : c = ⟨firstS e y, stepE e y⟩) : srt (o ++ [c]) = srt (crOf (A ++ [e]) y) := by rw [h, hc]; exact crOf_1 hs
theorem crs_ord {o : List Cross} {A : List Edge} {y : Int} (h : o = srt (crOf A y)) : OrdC o := by rw [h]; exact srt_OrdC _
theorem step_0 {a b : Pt} {y : Int} (h : a.y = b.y ∨ ¬ (min a.y b.y ≤ y ∧ y ≤ max a.y b.y - 1)) : stepE ⟨a, b⟩ y = 0 := by
  unfold stepE; dsimp only; split
  · omega
  · split
    · omega
    · rfl
theorem step_1 {a b : Pt} {y : Int} (h : ¬ a.y = b.y) (h2 : min a.y b.y ≤ y ∧ y ≤ max a.y b.y - 1) : ¬ stepE ⟨a, b⟩ y = 0 ∧ (if a.y < b.y then (1 : Int) else 0) - (if b.y < a.y then 1 else 0) = stepE ⟨a, b⟩ y := by
  unfold stepE; dsimp only
  by_cases hlt : a.y < b.y
  · rw [if_pos (by omega), if_pos hlt, if_neg (by omega)]; simp
  · rw [if_neg (by omega), if_pos (by omega), if_neg hlt, if_pos (by omega)]; simp
def tb33 : Nat → Option VE.Spec := tabOf [(63, wkIn spToInt), (32, wkIn spIn), (62, wkIn spFst2), (61, wkIn spPlc2)]
theorem tb33_63 : tb33 63 = some (wkIn spToInt) := rfl
theorem tb33_32 : tb33 32 = some (wkIn spIn) := rfl
theorem tb33_62 : tb33 62 = some (wkIn spFst2) := rfl
theorem tb33_61 : tb33 61 = some (wkIn spPlc2) := rfl
theorem tb33_ok : TabOK Try.prog rt0 tb33 := (tabOf_cons (by kernel_rfl) sat_spec_toInt (tabOf_cons (by kernel_rfl) sat_spec_inRange (tabOf_cons (by kernel_rfl) sat_spec_firstSample (tabOf_cons (by kernel_rfl) sat_spec_place tabOf_nil))))
set_option maxHeartbeats 4000000 in
theorem sat_spec_crossings_0 : Sat Try.prog rt0 33 (wkOut spCrs2) := by
  refine fn_sat hm ttok (tab := tb33) tb33_ok Try.func33 (c := Try.f33.body.getD .skip) (by kernel_rfl) (ts := [.tmp 4]) (by kernel_rfl) Try.ntmps33 (sq := fun id => !(id == 11)) (by kernel_rfl) ?_
  intro args ins pk hpre0 hpk
  obtain ⟨rfl, hpre0⟩ := hpre0
  obtain ⟨⟨L, y⟩, rfl, hpre, hdec⟩ := famPre_ex hpre0
  clear hpre0 hdec
  try simp only [spCrs2_pre] at hpre
  replace hpk : pk + 0 ≤ pickLimit := hpk
  refine ⟨Nat.le_of_ble_eq_true rfl, ?_⟩
  simp (config := { maxSteps := 1000000 }) only [go_sem, ↓ifP_true, ↓ifP_false, ↓ifP_not, Nat.reduceLT, Nat.reduceAdd, Nat.reduceBEq, Nat.reduceSub, Nat.reduceLeDiff, Nat.reduceEqDiff, Nat.reduceMul, Int.reduceToNat, Int.reduceEq, Int.reduceLT, Int.reduceLE, Int.reduceAdd, Int.reduceSub, Int.reduceMul, reduceCtorEq, cond_true, cond_false, forall_eq', forall_eq, forall_const, implies_true, if_true, if_false, exists_eq_left', exists_eq', exists_eq, ne_eq, Try.f33, tb33_63, tb33_32, tb33_62, tb33_61, spCrs2_q, spCrs2_A, spCrs2_pre, spCrs2_post, spToInt_q, spToInt_A, spToInt_pre, spToInt_post, spIn_q, spIn_A, spIn_pre, spIn_post, spFst2_q, spFst2_A, spFst2_pre, spFst2_post, spPlc2_q, spPlc2_A, spPlc2_pre, spPlc2_post]
  repeat' (first | apply And.intro | (intro _) | omega | assumption | with_reducible rfl)
  all_goals try (refine drawI (VE.Plan.first 0 (VE.Plan.first 1 (VE.Plan.first 2 (VE.Plan.first 3 (VE.Plan.first 5 (VE.Plan.first 6 (VE.Plan.first 7 (VE.Plan.first 8 (VE.Plan.first 9 (VE.Plan.first 11 (VE.Plan.first 12 (VE.Plan.first 13 (VE.Plan.first 14 (VE.Plan.first 15 (VE.Plan.alt 4 (VE.Plan.alt 10 (VE.Plan.alt 16 (VE.Plan.first 17 (VE.Plan.first 18 (VE.Plan.alt 19 (VE.Plan.alt 20 VE.Plan.nil VE.Plan.nil) VE.Plan.nil))) VE.Plan.nil) VE.Plan.nil) VE.Plan.nil))))))))))))))) (by decide +kernel) ?_; simp (config := { maxSteps := 1000000 }) only [go_sem, ↓ifP_true, ↓ifP_false, ↓ifP_not, Nat.reduceLT, Nat.reduceAdd, Nat.reduceBEq, Nat.reduceSub, Nat.reduceLeDiff, Nat.reduceEqDiff, Nat.reduceMul, Int.reduceToNat, Int.reduceEq, Int.reduceLT, Int.reduceLE, Int.reduceAdd, Int.reduceSub, Int.reduceMul, reduceCtorEq, cond_true, cond_false, forall_eq', forall_eq, forall_const, implies_true, if_true, if_false, exists_eq_left', exists_eq', exists_eq, ne_eq, planW, stepW, Try.f33, tb33_63, tb33_32, tb33_62, tb33_61, spCrs2_q, spCrs2_A, spCrs2_pre, spCrs2_post, spToInt_q, spToInt_A, spToInt_pre, spToInt_post, spIn_q, spIn_A, spIn_pre, spIn_post, spFst2_q, spFst2_A, spFst2_pre, spFst2_post, spPlc2_q, spPlc2_A, spPlc2_pre, spPlc2_post]; repeat' (first | apply And.intro | (intro _) | omega | assumption | with_reducible rfl))
  refine loopS (α := (List Cross) × Int) false [2, 3, 5, 6, 7, 8, 9, 10, 11, 12, 13, 14, 15, 16, 17, 18, 19, 20, 21, 22, 23, 24, 25, 26, 27, 28, 29, 30, 31, 32, 33, 34, 35, 36, 37, 38, 39, 40, 41, 42, 43, 44, 45, 46, 47, 48, 49, 50, 51, 52, 53, 54, 55, 56, 57, 58, 59, 60, 61, 62, 63, 64, 65, 66, 67, 68, 69, 70, 71, 72, 73, 74, 75, 76, 77, 78, 79, 80, 81, 82, 83, 84, 85, 86, 87] (fun σ => [gId (σ.get 5)]) (fun σ x => [(5, .c (.own (gId (σ.get 5)) (x.1).length false)), (6, I x.2)]) (fun σ x => [(gId (σ.get 5), some ⟨(x.1).map crC, 2, 30, true, false⟩)]) (fun (o, i) => 0) (fun σ => (gL crCd σ (σ.get 5), gI (σ.get 6))) (fun σ τ => [(gId (σ.get 5), gId (τ.get 5))]) (fun (o, i) => (0 ≤ i ∧ i ≤ L.length) ∧ o = srt (crOf (edgesOf (L.take i.toNat)) y)) (fun (o, i) => (L.length - i).toNat) ⟨by (simp (config := { maxSteps := 1000000 }) only [go_sem, ↓ifP_true, ↓ifP_false, ↓ifP_not, Nat.reduceLT, Nat.reduceAdd, Nat.reduceBEq, Nat.reduceSub, Nat.reduceLeDiff, Nat.reduceEqDiff, Nat.reduceMul, Int.reduceToNat, Int.reduceEq, Int.reduceLT, Int.reduceLE, Int.reduceAdd, Int.reduceSub, Int.reduceMul, reduceCtorEq, cond_true, cond_false, forall_eq', forall_eq, forall_const, implies_true, if_true, if_false, exists_eq_left', exists_eq', exists_eq, ne_eq, Try.f33, tb33_63, tb33_32, tb33_62, tb33_61, spCrs2_q, spCrs2_A, spCrs2_pre, spCrs2_post, spToInt_q, spToInt_A, spToInt_pre, spToInt_post, spIn_q, spIn_A, spIn_pre, spIn_post, spFst2_q, spFst2_A, spFst2_pre, spFst2_post, spPlc2_q, spPlc2_A, spPlc2_pre, spPlc2_post]; (repeat' (first | apply And.intro | (intro _) | omega | assumption | with_reducible rfl)); all_goals (first | exact srt_nil.symm)), ?_⟩
  rintro ⟨o, i⟩ hinv
  try dsimp only at hinv
  rcases elemAt L i (by omega) with ⟨hlt, r, hk⟩ | hlt
  all_goals (first | ((have hlt2 := of_eq_true hlt); (have hT := total_mem hk); (have h8 := vRings_len hpre.1); (have hol := crs_ln hinv.2); (rw [edgesOf_len] at hol); all_goals simp (config := { maxSteps := 1000000 }) only [go_sem, ↓ifP_true, ↓ifP_false, ↓ifP_not, Nat.reduceLT, Nat.reduceAdd, Nat.reduceBEq, Nat.reduceSub, Nat.reduceLeDiff, Nat.reduceEqDiff, Nat.reduceMul, Int.reduceToNat, Int.reduceEq, Int.reduceLT, Int.reduceLE, Int.reduceAdd, Int.reduceSub, Int.reduceMul, reduceCtorEq, cond_true, cond_false, forall_eq', forall_eq, forall_const, implies_true, if_true, if_false, exists_eq_left', exists_eq', exists_eq, ne_eq, Try.f33, tb33_63, tb33_32, tb33_62, tb33_61, spCrs2_q, spCrs2_A, spCrs2_pre, spCrs2_post, spToInt_q, spToInt_A, spToInt_pre, spToInt_post, spIn_q, spIn_A, spIn_pre, spIn_post, spFst2_q, spFst2_A, spFst2_pre, spFst2_post, spPlc2_q, spPlc2_A, spPlc2_pre, spPlc2_post, hlt, hk]) | (have hlt2 := of_eq_false hlt; simp (config := { maxSteps := 1000000 }) only [go_sem, ↓ifP_true, ↓ifP_false, ↓ifP_not, Nat.reduceLT, Nat.reduceAdd, Nat.reduceBEq, Nat.reduceSub, Nat.reduceLeDiff, Nat.reduceEqDiff, Nat.reduceMul, Int.reduceToNat, Int.reduceEq, Int.reduceLT, Int.reduceLE, Int.reduceAdd, Int.reduceSub, Int.reduceMul, reduceCtorEq, cond_true, cond_false, forall_eq', forall_eq, forall_const, implies_true, if_true, if_false, exists_eq_left', exists_eq', exists_eq, ne_eq, Try.f33, tb33_63, tb33_32, tb33_62, tb33_61, spCrs2_q, spCrs2_A, spCrs2_pre, spCrs2_post, spToInt_q, spToInt_A, spToInt_pre, spToInt_post, spIn_q, spIn_A, spIn_pre, spIn_post, spFst2_q, spFst2_A, spFst2_pre, spFst2_post, spPlc2_q, spPlc2_A, spPlc2_pre, spPlc2_post, hlt]))
  all_goals
    repeat' (first | apply And.intro | (intro _) | omega | assumption | with_reducible rfl)
  all_goals try (refine drawI (VE.Plan.first 0 (VE.Plan.first 1 (VE.Plan.first 2 (VE.Plan.first 3 (VE.Plan.first 5 (VE.Plan.first 6 (VE.Plan.first 7 (VE.Plan.first 8 (VE.Plan.first 9 (VE.Plan.first 11 (VE.Plan.first 12 (VE.Plan.first 13 (VE.Plan.first 14 (VE.Plan.first 15 (VE.Plan.alt 4 (VE.Plan.alt 10 (VE.Plan.alt 16 (VE.Plan.first 17 (VE.Plan.first 18 (VE.Plan.alt 19 (VE.Plan.alt 20 VE.Plan.nil VE.Plan.nil) VE.Plan.nil))) VE.Plan.nil) VE.Plan.nil) VE.Plan.nil))))))))))))))) (by decide +kernel) ?_; (first | simp (config := { maxSteps := 1000000 }) only [go_sem, ↓ifP_true, ↓ifP_false, ↓ifP_not, Nat.reduceLT, Nat.reduceAdd, Nat.reduceBEq, Nat.reduceSub, Nat.reduceLeDiff, Nat.reduceEqDiff, Nat.reduceMul, Int.reduceToNat, Int.reduceEq, Int.reduceLT, Int.reduceLE, Int.reduceAdd, Int.reduceSub, Int.reduceMul, reduceCtorEq, cond_true, cond_false, forall_eq', forall_eq, forall_const, implies_true, if_true, if_false, exists_eq_left', exists_eq', exists_eq, ne_eq, planW, stepW, Try.f33, tb33_63, tb33_32, tb33_62, tb33_61, spCrs2_q, spCrs2_A, spCrs2_pre, spCrs2_post, spToInt_q, spToInt_A, spToInt_pre, spToInt_post, spIn_q, spIn_A, spIn_pre, spIn_post, spFst2_q, spFst2_A, spFst2_pre, spFst2_post, spPlc2_q, spPlc2_A, spPlc2_pre, spPlc2_post, hlt, hk] | simp (config := { maxSteps := 1000000 }) only [go_sem, ↓ifP_true, ↓ifP_false, ↓ifP_not, Nat.reduceLT, Nat.reduceAdd, Nat.reduceBEq, Nat.reduceSub, Nat.reduceLeDiff, Nat.reduceEqDiff, Nat.reduceMul, Int.reduceToNat, Int.reduceEq, Int.reduceLT, Int.reduceLE, Int.reduceAdd, Int.reduceSub, Int.reduceMul, reduceCtorEq, cond_true, cond_false, forall_eq', forall_eq, forall_const, implies_true, if_true, if_false, exists_eq_left', exists_eq', exists_eq, ne_eq, planW, stepW, Try.f33, tb33_63, tb33_32, tb33_62, tb33_61, spCrs2_q, spCrs2_A, spCrs2_pre, spCrs2_post, spToInt_q, spToInt_A, spToInt_pre, spToInt_post, spIn_q, spIn_A, spIn_pre, spIn_post, spFst2_q, spFst2_A, spFst2_pre, spFst2_post, spPlc2_q, spPlc2_A, spPlc2_pre, spPlc2_post]); repeat' (first | apply And.intro | (intro _) | omega | assumption | with_reducible rfl))
  any_goals
    have hk0 := hk
    have hlt0 := hlt
    refine loopS (α := (List Cross) × Int) false [2, 3, 5, 7, 8, 9, 10, 11, 12, 13, 14, 15, 16, 17, 18, 19, 20, 21, 22, 23, 24, 25, 26, 27, 28, 29, 30, 31, 32, 33, 34, 35, 36, 37, 38, 39, 40, 41, 42, 43, 44, 45, 46, 47, 48, 49, 50, 51, 52, 53, 54, 55, 56, 57, 58, 59, 60, 61, 62, 63, 64, 65, 66, 67, 68, 69, 70, 71, 72, 73, 74, 75, 76, 77, 78, 79, 80, 81, 82, 83, 84, 85, 86, 87] (fun σ => [gId (σ.get 5)]) (fun σ x => [(5, .c (.own (gId (σ.get 5)) (x.1).length false)), (7, I x.2)]) (fun σ x => [(gId (σ.get 5), some ⟨(x.1).map crC, 2, 30, true, false⟩)]) (fun (o, k) => 0) (fun σ => (gL crCd σ (σ.get 5), gI (σ.get 7))) (fun σ τ => [(gId (σ.get 5), gId (τ.get 5))]) (fun (o, k) => (0 ≤ k ∧ k ≤ r.length) ∧ o = srt (crOf (edgesOf (L.take i.toNat) ++ (ringE r).take k.toNat) y)) (fun (o, k) => (r.length - k).toNat) ⟨by (simp (config := { maxSteps := 1000000 }) only [go_sem, ↓ifP_true, ↓ifP_false, ↓ifP_not, Nat.reduceLT, Nat.reduceAdd, Nat.reduceBEq, Nat.reduceSub, Nat.reduceLeDiff, Nat.reduceEqDiff, Nat.reduceMul, Int.reduceToNat, Int.reduceEq, Int.reduceLT, Int.reduceLE, Int.reduceAdd, Int.reduceSub, Int.reduceMul, reduceCtorEq, cond_true, cond_false, forall_eq', forall_eq, forall_const, implies_true, if_true, if_false, exists_eq_left', exists_eq', exists_eq, ne_eq, Try.f33, tb33_63, tb33_32, tb33_62, tb33_61, spCrs2_q, spCrs2_A, spCrs2_pre, spCrs2_post, spToInt_q, spToInt_A, spToInt_pre, spToInt_post, spIn_q, spIn_A, spIn_pre, spIn_post, spFst2_q, spFst2_A, spFst2_pre, spFst2_post, spPlc2_q, spPlc2_A, spPlc2_pre, spPlc2_post]; (repeat' (first | apply And.intro | (intro _) | omega | assumption | with_reducible rfl)); all_goals (first | exact hinv.2 | (rw [Int.toNat_zero, List.take_zero, List.append_nil]; exact hinv.2))), ?_⟩
    rintro ⟨o, k⟩ hinv
    try dsimp only at hinv
    rcases elemAt r k (by omega) with ⟨hlt, p, hk⟩ | hlt
    all_goals (first | ((have hlt2 := of_eq_true hlt); (have hp := ok_at hpre.1 hk0 hk); (have hol2 := crs_ln hinv.2); (rw [List.length_append, edgesOf_len, List.length_take, ringE_len] at hol2); (have hod := crs_ord hinv.2); all_goals (first | simp (config := { maxSteps := 1000000 }) only [go_sem, ↓ifP_true, ↓ifP_false, ↓ifP_not, Nat.reduceLT, Nat.reduceAdd, Nat.reduceBEq, Nat.reduceSub, Nat.reduceLeDiff, Nat.reduceEqDiff, Nat.reduceMul, Int.reduceToNat, Int.reduceEq, Int.reduceLT, Int.reduceLE, Int.reduceAdd, Int.reduceSub, Int.reduceMul, reduceCtorEq, cond_true, cond_false, forall_eq', forall_eq, forall_const, implies_true, if_true, if_false, exists_eq_left', exists_eq', exists_eq, ne_eq, Try.f33, tb33_63, tb33_32, tb33_62, tb33_61, spCrs2_q, spCrs2_A, spCrs2_pre, spCrs2_post, spToInt_q, spToInt_A, spToInt_pre, spToInt_post, spIn_q, spIn_A, spIn_pre, spIn_post, spFst2_q, spFst2_A, spFst2_pre, spFst2_post, spPlc2_q, spPlc2_A, spPlc2_pre, spPlc2_post, hlt, hk, hlt0, hk0] | simp (config := { maxSteps := 1000000 }) only [go_sem, ↓ifP_true, ↓ifP_false, ↓ifP_not, Nat.reduceLT, Nat.reduceAdd, Nat.reduceBEq, Nat.reduceSub, Nat.reduceLeDiff, Nat.reduceEqDiff, Nat.reduceMul, Int.reduceToNat, Int.reduceEq, Int.reduceLT, Int.reduceLE, Int.reduceAdd, Int.reduceSub, Int.reduceMul, reduceCtorEq, cond_true, cond_false, forall_eq', forall_eq, forall_const, implies_true, if_true, if_false, exists_eq_left', exists_eq', exists_eq, ne_eq, Try.f33, tb33_63, tb33_32, tb33_62, tb33_61, spCrs2_q, spCrs2_A, spCrs2_pre, spCrs2_post, spToInt_q, spToInt_A, spToInt_pre, spToInt_post, spIn_q, spIn_A, spIn_pre, spIn_post, spFst2_q, spFst2_A, spFst2_pre, spFst2_post, spPlc2_q, spPlc2_A, spPlc2_pre, spPlc2_post, hlt, hk])) | (have hlt2 := of_eq_false hlt; (first | simp (config := { maxSteps := 1000000 }) only [go_sem, ↓ifP_true, ↓ifP_false, ↓ifP_not, Nat.reduceLT, Nat.reduceAdd, Nat.reduceBEq, Nat.reduceSub, Nat.reduceLeDiff, Nat.reduceEqDiff, Nat.reduceMul, Int.reduceToNat, Int.reduceEq, Int.reduceLT, Int.reduceLE, Int.reduceAdd, Int.reduceSub, Int.reduceMul, reduceCtorEq, cond_true, cond_false, forall_eq', forall_eq, forall_const, implies_true, if_true, if_false, exists_eq_left', exists_eq', exists_eq, ne_eq, Try.f33, tb33_63, tb33_32, tb33_62, tb33_61, spCrs2_q, spCrs2_A, spCrs2_pre, spCrs2_post, spToInt_q, spToInt_A, spToInt_pre, spToInt_post, spIn_q, spIn_A, spIn_pre, spIn_post, spFst2_q, spFst2_A, spFst2_pre, spFst2_post, spPlc2_q, spPlc2_A, spPlc2_pre, spPlc2_post, hlt, hlt0, hk0] | simp (config := { maxSteps := 1000000 }) only [go_sem, ↓ifP_true, ↓ifP_false, ↓ifP_not, Nat.reduceLT, Nat.reduceAdd, Nat.reduceBEq, Nat.reduceSub, Nat.reduceLeDiff, Nat.reduceEqDiff, Nat.reduceMul, Int.reduceToNat, Int.reduceEq, Int.reduceLT, Int.reduceLE, Int.reduceAdd, Int.reduceSub, Int.reduceMul, reduceCtorEq, cond_true, cond_false, forall_eq', forall_eq, forall_const, implies_true, if_true, if_false, exists_eq_left', exists_eq', exists_eq, ne_eq, Try.f33, tb33_63, tb33_32, tb33_62, tb33_61, spCrs2_q, spCrs2_A, spCrs2_pre, spCrs2_post, spToInt_q, spToInt_A, spToInt_pre, spToInt_post, spIn_q, spIn_A, spIn_pre, spIn_post, spFst2_q, spFst2_A, spFst2_pre, spFst2_post, spPlc2_q, spPlc2_A, spPlc2_pre, spPlc2_post, hlt])))
    all_goals
    repeat' (first | apply And.intro | (intro _) | omega | assumption | with_reducible rfl)
    all_goals try (refine drawI (VE.Plan.first 0 (VE.Plan.first 1 (VE.Plan.first 2 (VE.Plan.first 3 (VE.Plan.first 5 (VE.Plan.first 6 (VE.Plan.first 7 (VE.Plan.first 8 (VE.Plan.first 9 (VE.Plan.first 11 (VE.Plan.first 12 (VE.Plan.first 13 (VE.Plan.first 14 (VE.Plan.first 15 (VE.Plan.alt 4 (VE.Plan.alt 10 (VE.Plan.alt 16 (VE.Plan.first 17 (VE.Plan.first 18 (VE.Plan.alt 19 (VE.Plan.alt 20 VE.Plan.nil VE.Plan.nil) VE.Plan.nil))) VE.Plan.nil) VE.Plan.nil) VE.Plan.nil))))))))))))))) (by decide +kernel) ?_; (first | simp (config := { maxSteps := 1000000 }) only [go_sem, ↓ifP_true, ↓ifP_false, ↓ifP_not, Nat.reduceLT, Nat.reduceAdd, Nat.reduceBEq, Nat.reduceSub, Nat.reduceLeDiff, Nat.reduceEqDiff, Nat.reduceMul, Int.reduceToNat, Int.reduceEq, Int.reduceLT, Int.reduceLE, Int.reduceAdd, Int.reduceSub, Int.reduceMul, reduceCtorEq, cond_true, cond_false, forall_eq', forall_eq, forall_const, implies_true, if_true, if_false, exists_eq_left', exists_eq', exists_eq, ne_eq, planW, stepW, Try.f33, tb33_63, tb33_32, tb33_62, tb33_61, spCrs2_q, spCrs2_A, spCrs2_pre, spCrs2_post, spToInt_q, spToInt_A, spToInt_pre, spToInt_post, spIn_q, spIn_A, spIn_pre, spIn_post, spFst2_q, spFst2_A, spFst2_pre, spFst2_post, spPlc2_q, spPlc2_A, spPlc2_pre, spPlc2_post, hlt, hk, hlt0, hk0] | simp (config := { maxSteps := 1000000 }) only [go_sem, ↓ifP_true, ↓ifP_false, ↓ifP_not, Nat.reduceLT, Nat.reduceAdd, Nat.reduceBEq, Nat.reduceSub, Nat.reduceLeDiff, Nat.reduceEqDiff, Nat.reduceMul, Int.reduceToNat, Int.reduceEq, Int.reduceLT, Int.reduceLE, Int.reduceAdd, Int.reduceSub, Int.reduceMul, reduceCtorEq, cond_true, cond_false, forall_eq', forall_eq, forall_const, implies_true, if_true, if_false, exists_eq_left', exists_eq', exists_eq, ne_eq, planW, stepW, Try.f33, tb33_63, tb33_32, tb33_62, tb33_61, spCrs2_q, spCrs2_A, spCrs2_pre, spCrs2_post, spToInt_q, spToInt_A, spToInt_pre, spToInt_post, spIn_q, spIn_A, spIn_pre, spIn_post, spFst2_q, spFst2_A, spFst2_pre, spFst2_post, spPlc2_q, spPlc2_A, spPlc2_pre, spPlc2_post, hlt, hk] | simp (config := { maxSteps := 1000000 }) only [go_sem, ↓ifP_true, ↓ifP_false, ↓ifP_not, Nat.reduceLT, Nat.reduceAdd, Nat.reduceBEq, Nat.reduceSub, Nat.reduceLeDiff, Nat.reduceEqDiff, Nat.reduceMul, Int.reduceToNat, Int.reduceEq, Int.reduceLT, Int.reduceLE, Int.reduceAdd, Int.reduceSub, Int.reduceMul, reduceCtorEq, cond_true, cond_false, forall_eq', forall_eq, forall_const, implies_true, if_true, if_false, exists_eq_left', exists_eq', exists_eq, ne_eq, planW, stepW, Try.f33, tb33_63, tb33_32, tb33_62, tb33_61, spCrs2_q, spCrs2_A, spCrs2_pre, spCrs2_post, spToInt_q, spToInt_A, spToInt_pre, spToInt_post, spIn_q, spIn_A, spIn_pre, spIn_post, spFst2_q, spFst2_A, spFst2_pre, spFst2_post, spPlc2_q, spPlc2_A, spPlc2_pre, spPlc2_post]); repeat' (first | apply And.intro | (intro _) | omega | assumption | with_reducible rfl))
  all_goals (first | (exact (tmod_lt (by omega) (by omega)).1; done) | (exact (tmod_lt (by omega) (by omega)).2; done) | (exact hod; done) | (exact hp; done) | (exact ok_at hpre.1 hk0 ‹_›; done) | ((rw [ringE_step hk ‹_› hinv.1.1, ← List.append_assoc]; exact crs_0 hinv.2 (step_0 (.inl ‹_›))); done) | ((rw [ringE_step hk ‹_› hinv.1.1, ← List.append_assoc]; exact crs_0 hinv.2 (step_0 (.inr ‹_›))); done) | ((obtain ⟨a1, a2, a3, a4⟩ := hp; obtain ⟨b1, b2, b3, b4⟩ := ok_at hpre.1 hk0 ‹r[((k + 1).tmod ↑r.length).toNat]? = some _›; omega); done) | (exact absurd ‹stepE _ _ = 0› (step_1 ‹_› ‹_›).1; done) | (exact absurd ‹stepE _ _ = 0› (step_1 ‹_› ⟨‹_›, ‹_›⟩).1; done) | ((rw [ringE_step hk ‹_› hinv.1.1, ← List.append_assoc]; exact crs_1 hinv.2 (step_1 ‹_› ‹_›).1 (by rw [← (step_1 ‹_› ‹_›).2])); done) | ((rw [ringE_step hk ‹_› hinv.1.1, ← List.append_assoc]; exact crs_1 hinv.2 (step_1 ‹_› ⟨‹_›, ‹_›⟩).1 (by rw [← (step_1 ‹_› ⟨‹_›, ‹_›⟩).2])); done) | ((rw [hinv.2, takeA (l := ringE r) (by rw [ringE_len]; omega), takeN hk0 (by omega), edgesOf_snoc]); done) | ((rw [hinv.2, takeA (by omega)]; rfl); done) | (skip; done))
theorem sat_spec_crossings : Sat Try.prog rt0 33 (wkIn spCrs2) := sat_in (sat_out sat_spec_crossings_0)
end Go.Proofs.Ytcejoknapbhloaa
end
section
set_option maxRecDepth 100000
set_option linter.unusedSimpArgs false
set_option linter.unusedVariables false
namespace Go.Proofs.Ytcejoknapbhloaa
open Go Go.VE
def spCrsOf_A : (List (List Pt)) × Int → List AV
  | (L, w) => [.c (.sl false (L.map lptC)), I w]
def spCrsOf_pre : (List (List Pt)) × Int → Prop
  | (L, w) => L.length ≤ 1000000000 ∧ total L ≤ 1000000000
def spCrsOf_post : (List (List Pt)) × Int → AV → List Box → Prop
  | (L, w), r, bs => r = .c (.sl false (((crV L w)).map crC)) ∧ bs = []
def spCrsOf : VE.Spec := famSpecS spCrsOf_A d_llpt_i spCrsOf_pre spCrsOf_post 0 false
theorem spCrsOf_q : spCrsOf.flat = false ∧ spCrsOf.mt = [] ∧ spCrsOf.shut = true ∧ spCrsOf.cost = 0 ∧ (∀ a i, spCrsOf.pre a i = (i = [] ∧ famPre d_llpt_i spCrsOf_A spCrsOf_pre a)) ∧ ∀ a i r b, spCrsOf.post a i r b = (famPost d_llpt_i spCrsOf_post a r b) := ⟨rfl, rfl, rfl, rfl, fun _ _ => rfl, fun _ _ _ _ => rfl⟩
def tb13 : Nat → Option VE.Spec := tabOf [(31, wkIn spVRings), (32, wkIn spIn), (33, wkIn spCrs2)]
theorem tb13_31 : tb13 31 = some (wkIn spVRings) := rfl
theorem tb13_32 : tb13 32 = some (wkIn spIn) := rfl
theorem tb13_33 : tb13 33 = some (wkIn spCrs2) := rfl
theorem tb13_ok : TabOK Try.prog rt0 tb13 := (tabOf_cons (by kernel_rfl) sat_spec_validRings (tabOf_cons (by kernel_rfl) sat_spec_inRange (tabOf_cons (by kernel_rfl) sat_spec_crossings tabOf_nil)))
set_option maxHeartbeats 4000000 in
theorem sat_spec_CrossesOf_0 : Sat Try.prog rt0 13 (wkOut spCrsOf) := by
  refine fn_sat hm ttok (tab := tb13) tb13_ok Try.func13 (c := Try.f13.body.getD .skip) (by kernel_rfl) (ts := [.tmp 4]) (by kernel_rfl) Try.ntmps13 (sq := fun _ => true) (by kernel_rfl) ?_
  intro args ins pk hpre0 hpk
  obtain ⟨rfl, hpre0⟩ := hpre0
  obtain ⟨⟨L, w⟩, rfl, hpre, hdec⟩ := famPre_ex hpre0
  clear hpre0 hdec
  try simp only [spCrsOf_pre] at hpre
  replace hpk : pk + 0 ≤ pickLimit := hpk
  refine ⟨Nat.le_of_ble_eq_true rfl, ?_⟩
  simp (config := { maxSteps := 1000000 }) only [go_sem, ↓ifP_true, ↓ifP_false, ↓ifP_not, Nat.reduceLT, Nat.reduceAdd, Nat.reduceBEq, Nat.reduceSub, Nat.reduceLeDiff, Nat.reduceEqDiff, Nat.reduceMul, Int.reduceToNat, Int.reduceEq, Int.reduceLT, Int.reduceLE, Int.reduceAdd, Int.reduceSub, Int.reduceMul, reduceCtorEq, cond_true, cond_false, forall_eq', forall_eq, forall_const, implies_true, if_true, if_false, exists_eq_left', exists_eq', exists_eq, ne_eq, Try.f13, tb13_31, tb13_32, tb13_33, spCrsOf_q, spCrsOf_A, spCrsOf_pre, spCrsOf_post, spVRings_q, spVRings_A, spVRings_pre, spVRings_post, spIn_q, spIn_A, spIn_pre, spIn_post, spCrs2_q, spCrs2_A, spCrs2_pre, spCrs2_post]
  repeat' (first | apply And.intro | (intro _) | omega | assumption | with_reducible rfl)
  all_goals (first | (omega; done) | ((rw [crV_yes ‹_› ⟨‹_›, ‹_›⟩, Int.add_comm]); done) | ((rw [crV_n1 ‹_›]; rfl); done) | ((rw [crV_n2 ‹_›]; rfl); done) | (skip; done))
theorem sat_spec_CrossesOf : Sat Try.prog rt0 13 (wkIn spCrsOf) := sat_in (sat_out sat_spec_CrossesOf_0)
structure okCr (C : List Cross) : Prop where
  all : ∀ c ∈ C, (0 ≤ c.a ∧ c.a ≤ 48) ∧ -1 ≤ c.s ∧ c.s ≤ 1
  len : C.length ≤ 200
theorem okCr_of {L : List (List Pt)} (h : vRings L = true) (y : Int) : okCr (crS L y) := ⟨crS_ok L y, crS_200 h y⟩
theorem okCr.at_ {C : List Cross} (h : okCr C) {i : Nat} {c : Cross} (hc : C[i]? = some c) : (0 ≤ c.a ∧ c.a ≤ 48) ∧ -1 ≤ c.s ∧ c.s ≤ 1 := h.all c (List.mem_of_getElem? hc)
theorem SpnI.bd {C : List Cross} {rl : Int} {i : Nat} {o : List Span} {fr n : Int} (h : SpnI C rl i o fr n) (hC : okCr C) : (-200 ≤ n ∧ n ≤ 200) ∧ -1 ≤ fr ∧ fr ≤ 48 := by
  have h1 := sum_bd1 (A := C.take i) fun c hc => (hC.all c (List.mem_of_mem_take hc)).2
  have h2 := hC.len
  rw [List.length_take] at h1
  have h3 := h.sum
  obtain ⟨a, j, -, hh, -, -, -, h6⟩ := h.ex
  have h7 := h6.sg
  omega
theorem SpnI.olen {C : List Cross} {rl : Int} {i : Nat} {o : List Span} {fr n : Int} (h : SpnI C rl i o fr n) : o.length ≤ 50 := by
  obtain ⟨a, j, -, hh, -, -, -, h6⟩ := h.ex
  rcases h6.sg with g | g
  · have := (h6.off g).1
    have h8 := (runB_len (f := insC C rl) (min (a + 1) 48).toNat).1
    rw [this] at h8; omega
  · have := (h6.on g.1).1
    have h8 := (runB_len (f := insC C rl) (min (a + 1) 48).toNat).1
    rw [this, List.length_append] at h8; omega
theorem spn_go {C : List Cross} {rl : Int} {i : Int} {o : List Span} {fr n : Int} {x : Cross} (hO : OrdC C) (hC : okCr C) (h : SpnI C rl i.toNat o fr n) (h0 : 0 ≤ i) (hx : C[i.toNat]? = some x) (hl : (C.length : Int) ≤ i + 1 ∨ ∃ y, C[(i + 1).toNat]? = some y ∧ x.a < y.a) :
    (fr < 0 → x.a < 48 → insN (n + x.s) rl = true → SpnI C rl (i + 1).toNat o x.a (n + x.s)) ∧ (fr < 0 → (x.a < 48 → insN (n + x.s) rl = false) → SpnI C rl (i + 1).toNat o fr (n + x.s)) ∧ (¬ fr < 0 → (insN (n + x.s) rl = true) → SpnI C rl (i + 1).toNat o fr (n + x.s)) ∧ (¬ fr < 0 → insN (n + x.s) rl = false → SpnI C rl (i + 1).toNat (o ++ [⟨fr, x.a⟩]) (-1) (n + x.s)) := by
  obtain ⟨h1, h2, a, h3, h4, h5, h6, h7⟩ := SpnI.pos hO (fun c hc => (hC.all c hc).1) h h0 hx hl
  have hx0 := hC.at_ hx
  obtain ⟨g1, g2, g3, g4⟩ := rs_go h3 h4 h5 hx0.1.2 h6 h7
  have hs : fr = -1 ∨ 0 ≤ fr := by rcases h3.sg with g | g; (exact .inl g); exact .inr g.1
  rw [h1] at g1 g2 g3 g4
  refine ⟨fun q1 q2 q3 => h2 _ _ (g1 (by omega) q2 q3), fun q1 q2 => ?_, fun q1 q2 => h2 _ _ (g3 (by omega) fun _ => q2), fun q1 q2 => h2 _ _ (g4 (by omega) fun _ => q2)⟩
  have e : fr = -1 := by omega
  have := h2 _ _ (g2 e q2)
  rw [← e] at this; exact this
def spSpns_A : (List Cross) × Int → List AV
  | (C, rl) => [.c (.sl false (C.map crC)), I rl]
def spSpns_pre : (List Cross) × Int → Prop
  | (C, rl) => OrdC C ∧ okCr C
def spSpns_post : (List Cross) × Int → AV → List Box → Prop
  | (C, rl), r, bs => r = .c (.own 0 (runB (insC C rl) 48).length false) ∧ bs = [⟨(runB (insC C rl) 48).map spC, 2, 45, true, false⟩]
def spSpns : VE.Spec := famSpec spSpns_A d_lcr_i spSpns_pre spSpns_post 0 true
theorem spSpns_q : spSpns.flat = true ∧ spSpns.mt = [] ∧ spSpns.shut = false ∧ spSpns.cost = 0 ∧ (∀ a i, spSpns.pre a i = (i = [] ∧ famPre d_lcr_i spSpns_A spSpns_pre a)) ∧ ∀ a i r b, spSpns.post a i r b = (famPost d_lcr_i spSpns_post a r b) := ⟨rfl, rfl, rfl, rfl, fun _ _ => rfl, fun _ _ _ _ => rfl⟩
end Go.Proofs.Ytcejoknapbhloaa
end
section
set_option maxRecDepth 100000
set_option linter.unusedSimpArgs false
set_option linter.unusedVariables false
namespace Go.Proofs.Ytcejoknapbhloaa
open Go Go.VE
theorem okVp {c : C} {x y : Int} (h : c ∈ [C.v (.int .i64 x), C.v (.int .i64 y)]) : okV c = true := by
  simp only [List.mem_cons, List.not_mem_nil, or_false] at h
  rcases h with rfl | rfl <;> rfl
theorem spn_e1 {C : List Cross} {rl i : Int} {o : List Span} {fr n : Int} (_hC : okCr C) (h : SpnI C rl i.toNat o fr n) (hi : ¬ i < C.length) (h2 : 0 ≤ fr) : o.length + 1 = (runB (insC C rl) 48).length ∧ List.map spC o ++ [[.v (.int .i64 fr), .v (.int .i64 48)]] = List.map spC (runB (insC C rl) 48) := by
  have e := (h.end_ (by omega)).2.2 (by omega)
  rw [e]; refine ⟨by simp, ?_⟩
  rw [List.map_append]; rfl
theorem spn_e2 {C : List Cross} {rl i : Int} {o : List Span} {fr n : Int} (_hC : okCr C) (h : SpnI C rl i.toNat o fr n) (hi : ¬ i < C.length) (h2 : ¬ 0 ≤ fr) : o.length = (runB (insC C rl) 48).length ∧ o = runB (insC C rl) 48 := by
  have e := (h.end_ (by omega)).2.1 (by omega)
  rw [e]; exact ⟨rfl, rfl⟩
def tb45 : Nat → Option VE.Spec := tabOf [(67, wkIn spIns)]
theorem tb45_67 : tb45 67 = some (wkIn spIns) := rfl
theorem tb45_ok : TabOK Try.prog rt0 tb45 := (tabOf_cons (by kernel_rfl) sat_spec_inside tabOf_nil)
set_option maxHeartbeats 4000000 in
theorem sat_spec_spans_0 : Sat Try.prog rt0 45 (wkOut spSpns) := by
  refine fn_sat hm ttok (tab := tb45) tb45_ok Try.func45 (c := Try.f45.body.getD .skip) (by kernel_rfl) (ts := [.tmp 4]) (by kernel_rfl) Try.ntmps45 (sq := fun _ => true) (by kernel_rfl) ?_
  intro args ins pk hpre0 hpk
  obtain ⟨rfl, hpre0⟩ := hpre0
  obtain ⟨⟨C, rl⟩, rfl, hpre, hdec⟩ := famPre_ex hpre0
  clear hpre0 hdec
  try simp only [spSpns_pre] at hpre
  replace hpk : pk + 0 ≤ pickLimit := hpk
  refine ⟨Nat.le_of_ble_eq_true rfl, ?_⟩
  simp (config := { maxSteps := 1000000 }) only [go_sem, ↓ifP_true, ↓ifP_false, ↓ifP_not, Nat.reduceLT, Nat.reduceAdd, Nat.reduceBEq, Nat.reduceSub, Nat.reduceLeDiff, Nat.reduceEqDiff, Nat.reduceMul, Int.reduceToNat, Int.reduceEq, Int.reduceLT, Int.reduceLE, Int.reduceAdd, Int.reduceSub, Int.reduceMul, reduceCtorEq, cond_true, cond_false, forall_eq', forall_eq, forall_const, implies_true, if_true, if_false, exists_eq_left', exists_eq', exists_eq, ne_eq, Try.f45, tb45_67, spSpns_q, spSpns_A, spSpns_pre, spSpns_post, spIns_q, spIns_A, spIns_pre, spIns_post]
  repeat' (first | apply And.intro | (intro _) | omega | assumption | with_reducible rfl)
  refine loopS (α := (List Span) × Int × Int × Int) false [2, 3, 5, 6, 7, 8, 9, 10, 11, 12, 13, 14, 15, 16, 17, 18, 19, 20, 21, 22, 23, 24, 25, 26, 27, 28, 29, 30, 31, 32, 33, 34, 35, 36, 37, 38, 39, 40, 41, 42, 43, 44, 45, 46, 47, 48, 49, 50, 51, 52, 53, 54, 55, 56, 57, 58, 59, 60, 61, 62, 63, 64, 65, 66, 67, 68, 69, 70, 71, 72, 73, 74, 75, 76, 77, 78, 79, 80, 81, 82, 83, 84, 85, 86, 87, 88, 90] (fun σ => [gId (σ.get 5)]) (fun σ x => [(5, .c (.own (gId (σ.get 5)) (x.1).length false)), (6, I x.2.1), (7, I x.2.2.1), (8, I x.2.2.2)]) (fun σ x => [(gId (σ.get 5), some ⟨(x.1).map spC, 2, 45, true, false⟩)]) (fun (o, n, f, i) => 0) (fun σ => (gL spCd σ (σ.get 5), gI (σ.get 6), gI (σ.get 7), gI (σ.get 8))) (fun σ τ => [(gId (σ.get 5), gId (τ.get 5))]) (fun (o, n, f, i) => (0 ≤ i ∧ i ≤ C.length) ∧ SpnI C rl i.toNat o f n) (fun (o, n, f, i) => (C.length - i).toNat) ⟨by (simp (config := { maxSteps := 1000000 }) only [go_sem, ↓ifP_true, ↓ifP_false, ↓ifP_not, Nat.reduceLT, Nat.reduceAdd, Nat.reduceBEq, Nat.reduceSub, Nat.reduceLeDiff, Nat.reduceEqDiff, Nat.reduceMul, Int.reduceToNat, Int.reduceEq, Int.reduceLT, Int.reduceLE, Int.reduceAdd, Int.reduceSub, Int.reduceMul, reduceCtorEq, cond_true, cond_false, forall_eq', forall_eq, forall_const, implies_true, if_true, if_false, exists_eq_left', exists_eq', exists_eq, ne_eq, Try.f45, tb45_67, spSpns_q, spSpns_A, spSpns_pre, spSpns_post, spIns_q, spIns_A, spIns_pre, spIns_post]; (repeat' (first | apply And.intro | (intro _) | omega | assumption | with_reducible rfl)); all_goals (first | exact SpnI.start C rl fun c hc => (hpre.2.all c hc).1.1)), ?_⟩
  rintro ⟨o, n, f, i⟩ hinv
  try dsimp only at hinv
  rcases elemAt C i (by omega) with ⟨hlt, x, hk⟩ | hlt
  all_goals (first | ((have hlt2 := of_eq_true hlt); (have hX := hpre.2.at_ hk); (have hB := hinv.2.bd hpre.2); (have hOl := hinv.2.olen); (have hCl := hpre.2.len); all_goals simp (config := { maxSteps := 1000000 }) only [go_sem, ↓ifP_true, ↓ifP_false, ↓ifP_not, Nat.reduceLT, Nat.reduceAdd, Nat.reduceBEq, Nat.reduceSub, Nat.reduceLeDiff, Nat.reduceEqDiff, Nat.reduceMul, Int.reduceToNat, Int.reduceEq, Int.reduceLT, Int.reduceLE, Int.reduceAdd, Int.reduceSub, Int.reduceMul, reduceCtorEq, cond_true, cond_false, forall_eq', forall_eq, forall_const, implies_true, if_true, if_false, exists_eq_left', exists_eq', exists_eq, ne_eq, Try.f45, tb45_67, spSpns_q, spSpns_A, spSpns_pre, spSpns_post, spIns_q, spIns_A, spIns_pre, spIns_post, hlt, hk]) | (have hlt2 := of_eq_false hlt; simp (config := { maxSteps := 1000000 }) only [go_sem, ↓ifP_true, ↓ifP_false, ↓ifP_not, Nat.reduceLT, Nat.reduceAdd, Nat.reduceBEq, Nat.reduceSub, Nat.reduceLeDiff, Nat.reduceEqDiff, Nat.reduceMul, Int.reduceToNat, Int.reduceEq, Int.reduceLT, Int.reduceLE, Int.reduceAdd, Int.reduceSub, Int.reduceMul, reduceCtorEq, cond_true, cond_false, forall_eq', forall_eq, forall_const, implies_true, if_true, if_false, exists_eq_left', exists_eq', exists_eq, ne_eq, Try.f45, tb45_67, spSpns_q, spSpns_A, spSpns_pre, spSpns_post, spIns_q, spIns_A, spIns_pre, spIns_post, hlt]))
  all_goals
    repeat' (first | apply And.intro | (intro _) | omega | assumption | with_reducible rfl)
  all_goals (first | (omega; done) | (exact okVp ‹_›; done) | (exact (spn_go hpre.1 hpre.2 hinv.2 hinv.1.1 hk (.inl (by omega))).1 (by omega) (by omega) ‹_›; done) | (exact (spn_go hpre.1 hpre.2 hinv.2 hinv.1.1 hk (.inr ⟨_, ‹C[(i + 1).toNat]? = some _›, ‹_›⟩)).1 (by omega) (by omega) ‹_›; done) | (exact (spn_go hpre.1 hpre.2 hinv.2 hinv.1.1 hk (.inl (by omega))).2.1 (by omega) (fun q => by omega); done) | (exact (spn_go hpre.1 hpre.2 hinv.2 hinv.1.1 hk (.inl (by omega))).2.1 (by omega) (fun _ => ‹_›); done) | (exact (spn_go hpre.1 hpre.2 hinv.2 hinv.1.1 hk (.inr ⟨_, ‹C[(i + 1).toNat]? = some _›, ‹_›⟩)).2.1 (by omega) (fun q => by omega); done) | (exact (spn_go hpre.1 hpre.2 hinv.2 hinv.1.1 hk (.inr ⟨_, ‹C[(i + 1).toNat]? = some _›, ‹_›⟩)).2.1 (by omega) (fun _ => ‹_›); done) | (exact (spn_go hpre.1 hpre.2 hinv.2 hinv.1.1 hk (.inl (by omega))).2.2.1 (by omega) ‹_›; done) | (exact (spn_go hpre.1 hpre.2 hinv.2 hinv.1.1 hk (.inr ⟨_, ‹C[(i + 1).toNat]? = some _›, ‹_›⟩)).2.2.1 (by omega) ‹_›; done) | (exact (spn_go hpre.1 hpre.2 hinv.2 hinv.1.1 hk (.inl (by omega))).2.2.2 (by omega) ‹_›; done) | (exact (spn_go hpre.1 hpre.2 hinv.2 hinv.1.1 hk (.inr ⟨_, ‹C[(i + 1).toNat]? = some _›, ‹_›⟩)).2.2.2 (by omega) ‹_›; done) | (exact spn_e1 hpre.2 hinv.2 ‹_› ‹_›; done) | (exact (spn_e1 hpre.2 hinv.2 ‹_› ‹_›).1; done) | (exact (spn_e1 hpre.2 hinv.2 ‹_› ‹_›).2; done) | (exact (spn_e2 hpre.2 hinv.2 ‹_› ‹_›).1; done) | (exact (spn_e2 hpre.2 hinv.2 ‹_› ‹_›).2; done) | ((have := hinv.2.olen; omega); done) | (exact SpnI.more hpre.1 hinv.2 hinv.1.1 hk ‹C[(i + 1).toNat]? = some _› ‹_›; done) | (skip; done))
theorem sat_spec_spans : Sat Try.prog rt0 45 (wkIn spSpns) := sat_in (sat_out sat_spec_spans_0)
end Go.Proofs.Ytcejoknapbhloaa
end
section
set_option maxRecDepth 100000
set_option linter.unusedSimpArgs false
set_option linter.unusedVariables false
namespace Go.Proofs.Ytcejoknapbhloaa
open Go Go.VE
def spSpV_A : (List (List Pt)) × Int × Int → List AV
  | (L, rl, w) => [.c (.sl false (L.map lptC)), I rl, I w]
def spSpV_pre : (List (List Pt)) × Int × Int → Prop
  | (L, rl, w) => L.length ≤ 1000000000 ∧ total L ≤ 1000000000
def spSpV_post : (List (List Pt)) × Int × Int → AV → List Box → Prop
  | (L, rl, w), r, bs => r = .c (.sl false (((spV L rl w)).map spC)) ∧ bs = []
def spSpV : VE.Spec := famSpecS spSpV_A d_llpt_i_i spSpV_pre spSpV_post 0 false
theorem spSpV_q : spSpV.flat = false ∧ spSpV.mt = [] ∧ spSpV.shut = true ∧ spSpV.cost = 0 ∧ (∀ a i, spSpV.pre a i = (i = [] ∧ famPre d_llpt_i_i spSpV_A spSpV_pre a)) ∧ ∀ a i r b, spSpV.post a i r b = (famPost d_llpt_i_i spSpV_post a r b) := ⟨rfl, rfl, rfl, rfl, fun _ _ => rfl, fun _ _ _ _ => rfl⟩
theorem isRl_in {n : Int} (h1 : 0 ≤ n) (h2 : n ≤ 1) : isRl n = true := by rw [isRl, decide_eq_true (by omega)]
theorem isRl_out {n : Int} (h1 : ¬ (0 ≤ n ∧ n ≤ 1)) : isRl n = false := by rw [isRl, decide_eq_false (by omega)]
def tb24 : Nat → Option VE.Spec := tabOf [(31, wkIn spVRings), (32, wkIn spIn), (33, wkIn spCrs2), (45, wkIn spSpns)]
theorem tb24_31 : tb24 31 = some (wkIn spVRings) := rfl
theorem tb24_32 : tb24 32 = some (wkIn spIn) := rfl
theorem tb24_33 : tb24 33 = some (wkIn spCrs2) := rfl
theorem tb24_45 : tb24 45 = some (wkIn spSpns) := rfl
theorem tb24_ok : TabOK Try.prog rt0 tb24 := (tabOf_cons (by kernel_rfl) sat_spec_validRings (tabOf_cons (by kernel_rfl) sat_spec_inRange (tabOf_cons (by kernel_rfl) sat_spec_crossings (tabOf_cons (by kernel_rfl) sat_spec_spans tabOf_nil))))
set_option maxHeartbeats 4000000 in
theorem sat_spec_SpansOf_0 : Sat Try.prog rt0 24 (wkOut spSpV) := by
  refine fn_sat hm ttok (tab := tb24) tb24_ok Try.func24 (c := Try.f24.body.getD .skip) (by kernel_rfl) (ts := [.tmp 6]) (by kernel_rfl) Try.ntmps24 (sq := fun _ => true) (by kernel_rfl) ?_
  intro args ins pk hpre0 hpk
  obtain ⟨rfl, hpre0⟩ := hpre0
  obtain ⟨⟨L, rl, w⟩, rfl, hpre, hdec⟩ := famPre_ex hpre0
  clear hpre0 hdec
  try simp only [spSpV_pre] at hpre
  replace hpk : pk + 0 ≤ pickLimit := hpk
  refine ⟨Nat.le_of_ble_eq_true rfl, ?_⟩
  simp (config := { maxSteps := 1000000 }) only [go_sem, ↓ifP_true, ↓ifP_false, ↓ifP_not, Nat.reduceLT, Nat.reduceAdd, Nat.reduceBEq, Nat.reduceSub, Nat.reduceLeDiff, Nat.reduceEqDiff, Nat.reduceMul, Int.reduceToNat, Int.reduceEq, Int.reduceLT, Int.reduceLE, Int.reduceAdd, Int.reduceSub, Int.reduceMul, reduceCtorEq, cond_true, cond_false, forall_eq', forall_eq, forall_const, implies_true, if_true, if_false, exists_eq_left', exists_eq', exists_eq, ne_eq, Try.f24, tb24_31, tb24_32, tb24_33, tb24_45, spSpV_q, spSpV_A, spSpV_pre, spSpV_post, spVRings_q, spVRings_A, spVRings_pre, spVRings_post, spIn_q, spIn_A, spIn_pre, spIn_post, spCrs2_q, spCrs2_A, spCrs2_pre, spCrs2_post, spSpns_q, spSpns_A, spSpns_pre, spSpns_post]
  repeat' (first | apply And.intro | (intro _) | omega | assumption | with_reducible rfl)
  all_goals (first | (omega; done) | (exact ⟨srt_OrdC _, okCr_of ‹_› _⟩; done) | (exact srt_OrdC _; done) | (exact okCr_of ‹_› _; done) | ((rw [spV_yes ‹_› (isRl_in ‹_› ‹_›) ⟨‹_›, ‹_›⟩, Int.add_comm]); done) | ((rw [spV_n1 ‹_›]; rfl); done) | ((rw [spV_n2 (isRl_out ‹_›)]; rfl); done) | ((rw [spV_n3 ‹_›]; rfl); done) | (skip; done))
theorem sat_spec_SpansOf : Sat Try.prog rt0 24 (wkIn spSpV) := sat_in (sat_out sat_spec_SpansOf_0)
end Go.Proofs.Ytcejoknapbhloaa
end
