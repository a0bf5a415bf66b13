/- Contracts of functions of the program vectorraster, each proved for all states that fit its description. No conditions. -/
import Derived.Test.YthphndhiacikaaaDoorT2M1
import Derived.Test.YthphndhiacikaaaDoorP3
import Derived.Test.YthphndhiacikaaaDoorT2KV
import Derived.Lib.ItoaLen
set_option maxRecDepth 100000
set_option linter.unusedSimpArgs false
set_option linter.unusedVariables false
namespace Go.Proofs.YthphndhiacikaaaDoor
open Go Go.VE
theorem itoa_sz {n : Int} (h0 : -9223372036854775808 ≤ n) (h1 : n ≤ 9223372036854775807) : (mkB (Lib.itoa n)).size ≤ 21 := by
  rw [mkB_size]; exact Lib.itoa_length_le n h0 h1
theorem one_str (k : Nat) (h : k < 10) : strOfNums [48 + (k : Int)] = mkB [dig k] := by
  apply tx_inj
  rw [tx_mk]
  show ([48 + (k : Int)].map fun n => UInt8.ofNat n.toNat) = _
  simp only [List.map_cons, List.map_nil, dig]
  congr 2
theorem dec1 {n : Int} (h0 : 0 ≤ n) (h : n < 10) : strOfNums [48 + n] = mkB (Lib.itoa n) := by
  rw [itoa_pos h0, dec_small (by omega), ← one_str _ (by omega)]
  congr 3; omega
theorem dec2 {n : Int} (h0 : 0 ≤ n) (h : ¬ n < 10) : mkB (Lib.itoa (n.tdiv 10)) ++ strOfNums [48 + n.tmod 10] = mkB (Lib.itoa n) := by
  have e1 : n.tdiv 10 = n / 10 := Int.tdiv_eq_ediv_of_nonneg h0
  have e2 : n.tmod 10 = n % 10 := Int.tmod_eq_emod_of_nonneg h0
  rw [e1, e2, itoa_pos h0, dec_big (u := n.toNat) (by omega), itoa_pos (by omega), ← mkB_app, ← one_str _ (by omega)]
  congr 3
  · omega
  · congr 2; omega
theorem dec3 {n : Int} (h : n < 0) : (ByteArray.mk #[45]) ++ mkB (Lib.itoa (0 - n)) = mkB (Lib.itoa n) := by
  rw [itoa_neg' h, itoa_pos (by omega)]
  have : (0 - n).toNat = (-n).toNat := by omega
  rw [this]
  exact mkB_app [45] _
def spNo : VE.Spec := ⟨fun _ _ => False, fun _ _ _ _ => True, 0, true, [], false⟩
theorem spNo_q : spNo.flat = true ∧ spNo.mt = [] ∧ spNo.shut = false ∧ spNo.cost = 0 ∧ (∀ a i, spNo.pre a i = False) ∧ ∀ a i r b, spNo.post a i r b = True := ⟨rfl, rfl, rfl, rfl, fun _ _ => rfl, fun _ _ _ _ => rfl⟩
theorem sat_no (f : Nat) : Sat Tryd.prog rt0 f (wkIn spNo) := fun _ _ _ _ _ _ _ _ _ _ h => h.elim
def spDec_A : Int → List AV := fun n => [I n]
def spDec_pre (D : Nat) : Int → Prop := fun n => 0 ≤ n ∧ n.toNat < 10 ^ (D + 1)
def spDec_post : Int → AV → List Box → Prop := fun n r bs => r = .c (.v (.string (mkB (Lib.itoa n)))) ∧ bs = []
def spDec (D : Nat) : VE.Spec := famSpec spDec_A d_i (spDec_pre D) spDec_post 0 true
theorem spDec_q (D : Nat) : (spDec D).flat = true ∧ (spDec D).mt = [] ∧ (spDec D).shut = false ∧ (spDec D).cost = 0 ∧ (∀ a i, (spDec D).pre a i = (i = [] ∧ famPre d_i spDec_A (spDec_pre D) a)) ∧ ∀ a i r b, (spDec D).post a i r b = (famPost d_i spDec_post a r b) := ⟨rfl, rfl, rfl, rfl, fun _ _ => rfl, fun _ _ _ _ => rfl⟩
def spDecI_A : Int → List AV
  | n => [I n]
def spDecI_pre : Int → Prop
  | n => -9999 ≤ n ∧ n ≤ 9999
def spDecI_post : Int → AV → List Box → Prop
  | n, r, bs => r = .c (.v (.string (mkB (Lib.itoa n)))) ∧ bs = []
def spDecI : VE.Spec := famSpec spDecI_A d_i spDecI_pre spDecI_post 0 true
theorem spDecI_q : spDecI.flat = true ∧ spDecI.mt = [] ∧ spDecI.shut = false ∧ spDecI.cost = 0 ∧ (∀ a i, spDecI.pre a i = (i = [] ∧ famPre d_i spDecI_A spDecI_pre a)) ∧ ∀ a i r b, spDecI.post a i r b = (famPost d_i spDecI_post a r b) := ⟨rfl, rfl, rfl, rfl, fun _ _ => rfl, fun _ _ _ _ => rfl⟩
set_option maxHeartbeats 4000000 in
theorem sat_dec_0  : Sat Tryd.prog rt0 42 (wkOut (spDec 0)) := by
  refine fn_sat hm ttok (tab := tabOf [(42, wkIn spNo)]) (tabOf_cons (by kernel_rfl) (sat_no 42) tabOf_nil) Tryd.func42 (c := Tryd.f42.body.getD .skip) (by kernel_rfl) (ts := [.tmp 2]) (by kernel_rfl) Tryd.ntmps42 (sq := fun id => !(id == 7)) (by kernel_rfl) ?_
  intro args ins pk hpre0 hpk
  obtain ⟨rfl, hpre0⟩ := hpre0
  obtain ⟨n, rfl, hpre, hdec⟩ := famPre_ex hpre0
  clear hpre0 hdec
  simp only [spDec_pre] at hpre
  replace hpk : pk + 0 ≤ pickLimit := hpk
  refine ⟨Nat.le_of_ble_eq_true rfl, ?_⟩
  have e1 : 0 ≤ n → n.tdiv 10 = n / 10 := fun h => Int.tdiv_eq_ediv_of_nonneg h
  have e2 : 0 ≤ n → n.tmod 10 = n % 10 := fun h => Int.tmod_eq_emod_of_nonneg h
  skip
  simp (config := { maxSteps := 1000000 }) only [go_sem, ↓ifP_true, ↓ifP_false, ↓ifP_not, Nat.reduceLT, Nat.reduceAdd, Nat.reduceBEq, Nat.reduceSub, Nat.reduceLeDiff, Nat.reduceEqDiff, Nat.reduceMul, Int.reduceToNat, Int.reduceEq, Int.reduceLT, Int.reduceLE, Int.reduceAdd, Int.reduceSub, Int.reduceMul, reduceCtorEq, cond_true, cond_false, forall_eq', forall_eq, forall_const, implies_true, if_true, if_false, exists_eq_left', exists_eq', exists_eq, ne_eq, Tryd.f42, tabOf.eq_2, tabOf.eq_1, spDec_q, spDec_A, spDec_pre, spDec_post, spNo_q]
  repeat' (first | apply And.intro | (intro _) | omega | assumption | with_reducible rfl)
  all_goals try (refine drawI (VE.Plan.first 0 (VE.Plan.first 1 (VE.Plan.first 3 (VE.Plan.first 4 (VE.Plan.first 5 (VE.Plan.first 6 (VE.Plan.alt 2 (VE.Plan.alt 7 (VE.Plan.first 8 (VE.Plan.first 9 (VE.Plan.alt 10 VE.Plan.nil VE.Plan.nil))) VE.Plan.nil) (VE.Plan.alt 7 (VE.Plan.first 8 (VE.Plan.alt 2 (VE.Plan.first 9 (VE.Plan.alt 10 VE.Plan.nil VE.Plan.nil)) VE.Plan.nil)) VE.Plan.nil)))))))) (by kernel_rfl) ?_; simp (config := { maxSteps := 1000000 }) only [go_sem, ↓ifP_true, ↓ifP_false, ↓ifP_not, Nat.reduceLT, Nat.reduceAdd, Nat.reduceBEq, Nat.reduceSub, Nat.reduceLeDiff, Nat.reduceEqDiff, Nat.reduceMul, Int.reduceToNat, Int.reduceEq, Int.reduceLT, Int.reduceLE, Int.reduceAdd, Int.reduceSub, Int.reduceMul, reduceCtorEq, cond_true, cond_false, forall_eq', forall_eq, forall_const, implies_true, if_true, if_false, exists_eq_left', exists_eq', exists_eq, ne_eq, planW, stepW, Go.VE.stepT, Go.VE.clearO, Tryd.f42, tabOf.eq_2, tabOf.eq_1, spDec_q, spDec_A, spDec_pre, spDec_post, spNo_q]; repeat' (first | apply And.intro | (intro _) | omega | assumption | with_reducible rfl))
  all_goals (first | ((rw [dec1 (by omega) (by omega)]); done) | ((rw [dec2 (by omega) (by omega)]); done) | ((rw [dec3 (by omega)]); done) | ((exact dec1 (by omega) (by omega)); done) | ((exact dec2 (by omega) (by omega)); done) | ((exact dec3 (by omega)); done) | ((exfalso; have h9 := hpre.2; simp at h9; omega); done) | ((have h8 := e1 (by omega); have h9 := itoa_sz (n := n.tdiv 10) (by omega) (by omega); rw [strOfNums_size]; simp only [List.length_singleton]; omega); done) | ((have h9 := itoa_sz (n := 0 - n) (by omega) (by omega); simp only [List.size_toArray, List.length_singleton]; omega); done) | ((have h8 := e1 (by omega); have h9 := hpre.2; rw [Nat.pow_succ] at h9; omega); done) | ((have h8 := e1 (by omega); have h9 := e2 (by omega); omega); done) | (omega; done))
set_option maxHeartbeats 4000000 in
theorem sat_dec_1 (D : Nat) (hD : D ≤ 8) (ih : Sat Tryd.prog rt0 42 (wkIn (spDec D))) : Sat Tryd.prog rt0 42 (wkOut (spDec (D + 1))) := by
  refine fn_sat hm ttok (tab := tabOf [(42, wkIn (spDec D))]) (tabOf_cons (by kernel_rfl) ih tabOf_nil) Tryd.func42 (c := Tryd.f42.body.getD .skip) (by kernel_rfl) (ts := [.tmp 2]) (by kernel_rfl) Tryd.ntmps42 (sq := fun id => !(id == 7)) (by kernel_rfl) ?_
  intro args ins pk hpre0 hpk
  obtain ⟨rfl, hpre0⟩ := hpre0
  obtain ⟨n, rfl, hpre, hdec⟩ := famPre_ex hpre0
  clear hpre0 hdec
  simp only [spDec_pre] at hpre
  replace hpk : pk + 0 ≤ pickLimit := hpk
  refine ⟨Nat.le_of_ble_eq_true rfl, ?_⟩
  have e1 : 0 ≤ n → n.tdiv 10 = n / 10 := fun h => Int.tdiv_eq_ediv_of_nonneg h
  have e2 : 0 ≤ n → n.tmod 10 = n % 10 := fun h => Int.tmod_eq_emod_of_nonneg h
  have e3 : n ≤ 99999999999 := by have h9 := hpre.2; have h8 : 10 ^ (D + 1 + 1) ≤ 10 ^ 10 := Nat.pow_le_pow_right (by decide) (by omega); omega
  simp (config := { maxSteps := 1000000 }) only [go_sem, ↓ifP_true, ↓ifP_false, ↓ifP_not, Nat.reduceLT, Nat.reduceAdd, Nat.reduceBEq, Nat.reduceSub, Nat.reduceLeDiff, Nat.reduceEqDiff, Nat.reduceMul, Int.reduceToNat, Int.reduceEq, Int.reduceLT, Int.reduceLE, Int.reduceAdd, Int.reduceSub, Int.reduceMul, reduceCtorEq, cond_true, cond_false, forall_eq', forall_eq, forall_const, implies_true, if_true, if_false, exists_eq_left', exists_eq', exists_eq, ne_eq, Tryd.f42, tabOf.eq_2, tabOf.eq_1, spDec_q, spDec_A, spDec_pre, spDec_post, spNo_q]
  repeat' (first | apply And.intro | (intro _) | omega | assumption | with_reducible rfl)
  all_goals try (refine drawI (VE.Plan.first 0 (VE.Plan.first 1 (VE.Plan.first 3 (VE.Plan.first 4 (VE.Plan.first 5 (VE.Plan.first 6 (VE.Plan.alt 2 (VE.Plan.alt 7 (VE.Plan.first 8 (VE.Plan.first 9 (VE.Plan.alt 10 VE.Plan.nil VE.Plan.nil))) VE.Plan.nil) (VE.Plan.alt 7 (VE.Plan.first 8 (VE.Plan.alt 2 (VE.Plan.first 9 (VE.Plan.alt 10 VE.Plan.nil VE.Plan.nil)) VE.Plan.nil)) VE.Plan.nil)))))))) (by kernel_rfl) ?_; simp (config := { maxSteps := 1000000 }) only [go_sem, ↓ifP_true, ↓ifP_false, ↓ifP_not, Nat.reduceLT, Nat.reduceAdd, Nat.reduceBEq, Nat.reduceSub, Nat.reduceLeDiff, Nat.reduceEqDiff, Nat.reduceMul, Int.reduceToNat, Int.reduceEq, Int.reduceLT, Int.reduceLE, Int.reduceAdd, Int.reduceSub, Int.reduceMul, reduceCtorEq, cond_true, cond_false, forall_eq', forall_eq, forall_const, implies_true, if_true, if_false, exists_eq_left', exists_eq', exists_eq, ne_eq, planW, stepW, Go.VE.stepT, Go.VE.clearO, Tryd.f42, tabOf.eq_2, tabOf.eq_1, spDec_q, spDec_A, spDec_pre, spDec_post, spNo_q]; repeat' (first | apply And.intro | (intro _) | omega | assumption | with_reducible rfl))
  all_goals (first | ((rw [dec1 (by omega) (by omega)]); done) | ((rw [dec2 (by omega) (by omega)]); done) | ((rw [dec3 (by omega)]); done) | ((exact dec1 (by omega) (by omega)); done) | ((exact dec2 (by omega) (by omega)); done) | ((exact dec3 (by omega)); done) | ((exfalso; have h9 := hpre.2; simp at h9; omega); done) | ((have h8 := e1 (by omega); have h9 := itoa_sz (n := n.tdiv 10) (by omega) (by omega); rw [strOfNums_size]; simp only [List.length_singleton]; omega); done) | ((have h9 := itoa_sz (n := 0 - n) (by omega) (by omega); simp only [List.size_toArray, List.length_singleton]; omega); done) | ((have h8 := e1 (by omega); have h9 := hpre.2; rw [Nat.pow_succ] at h9; omega); done) | ((have h8 := e1 (by omega); have h9 := e2 (by omega); omega); done) | (omega; done))
theorem sat_dec : ∀ D : Nat, D ≤ 8 → Sat Tryd.prog rt0 42 (wkIn (spDec D))
  | 0, _ => sat_in (sat_out sat_dec_0)
  | D + 1, h => sat_in (sat_out (sat_dec_1 D (by omega) (sat_dec D (by omega))))
set_option maxHeartbeats 4000000 in
theorem sat_dec_I  : Sat Tryd.prog rt0 42 (wkOut spDecI) := by
  refine fn_sat hm ttok (tab := tabOf [(42, wkIn (spDec 3))]) (tabOf_cons (by kernel_rfl) (sat_dec 3 (by decide)) tabOf_nil) Tryd.func42 (c := Tryd.f42.body.getD .skip) (by kernel_rfl) (ts := [.tmp 2]) (by kernel_rfl) Tryd.ntmps42 (sq := fun id => !(id == 7)) (by kernel_rfl) ?_
  intro args ins pk hpre0 hpk
  obtain ⟨rfl, hpre0⟩ := hpre0
  obtain ⟨n, rfl, hpre, hdec⟩ := famPre_ex hpre0
  clear hpre0 hdec
  simp only [spDecI_pre] at hpre
  replace hpk : pk + 0 ≤ pickLimit := hpk
  refine ⟨Nat.le_of_ble_eq_true rfl, ?_⟩
  have e1 : 0 ≤ n → n.tdiv 10 = n / 10 := fun h => Int.tdiv_eq_ediv_of_nonneg h
  have e2 : 0 ≤ n → n.tmod 10 = n % 10 := fun h => Int.tmod_eq_emod_of_nonneg h
  skip
  simp (config := { maxSteps := 1000000 }) only [go_sem, ↓ifP_true, ↓ifP_false, ↓ifP_not, Nat.reduceLT, Nat.reduceAdd, Nat.reduceBEq, Nat.reduceSub, Nat.reduceLeDiff, Nat.reduceEqDiff, Nat.reduceMul, Int.reduceToNat, Int.reduceEq, Int.reduceLT, Int.reduceLE, Int.reduceAdd, Int.reduceSub, Int.reduceMul, reduceCtorEq, cond_true, cond_false, forall_eq', forall_eq, forall_const, implies_true, if_true, if_false, exists_eq_left', exists_eq', exists_eq, ne_eq, Tryd.f42, tabOf.eq_2, tabOf.eq_1, spDec_q, spDec_A, spDec_pre, spDec_post, spDecI_q, spDecI_A, spDecI_pre, spDecI_post, spNo_q]
  repeat' (first | apply And.intro | (intro _) | omega | assumption | with_reducible rfl)
  all_goals try (refine drawI (VE.Plan.first 0 (VE.Plan.first 1 (VE.Plan.first 3 (VE.Plan.first 4 (VE.Plan.first 5 (VE.Plan.first 6 (VE.Plan.alt 2 (VE.Plan.alt 7 (VE.Plan.first 8 (VE.Plan.first 9 (VE.Plan.alt 10 VE.Plan.nil VE.Plan.nil))) VE.Plan.nil) (VE.Plan.alt 7 (VE.Plan.first 8 (VE.Plan.alt 2 (VE.Plan.first 9 (VE.Plan.alt 10 VE.Plan.nil VE.Plan.nil)) VE.Plan.nil)) VE.Plan.nil)))))))) (by kernel_rfl) ?_; simp (config := { maxSteps := 1000000 }) only [go_sem, ↓ifP_true, ↓ifP_false, ↓ifP_not, Nat.reduceLT, Nat.reduceAdd, Nat.reduceBEq, Nat.reduceSub, Nat.reduceLeDiff, Nat.reduceEqDiff, Nat.reduceMul, Int.reduceToNat, Int.reduceEq, Int.reduceLT, Int.reduceLE, Int.reduceAdd, Int.reduceSub, Int.reduceMul, reduceCtorEq, cond_true, cond_false, forall_eq', forall_eq, forall_const, implies_true, if_true, if_false, exists_eq_left', exists_eq', exists_eq, ne_eq, planW, stepW, Go.VE.stepT, Go.VE.clearO, Tryd.f42, tabOf.eq_2, tabOf.eq_1, spDec_q, spDec_A, spDec_pre, spDec_post, spDecI_q, spDecI_A, spDecI_pre, spDecI_post, spNo_q]; repeat' (first | apply And.intro | (intro _) | omega | assumption | with_reducible rfl))
  all_goals (first | ((rw [dec1 (by omega) (by omega)]); done) | ((rw [dec2 (by omega) (by omega)]); done) | ((rw [dec3 (by omega)]); done) | ((exact dec1 (by omega) (by omega)); done) | ((exact dec2 (by omega) (by omega)); done) | ((exact dec3 (by omega)); done) | ((exfalso; have h9 := hpre.2; simp at h9; omega); done) | ((have h8 := e1 (by omega); have h9 := itoa_sz (n := n.tdiv 10) (by omega) (by omega); rw [strOfNums_size]; simp only [List.length_singleton]; omega); done) | ((have h9 := itoa_sz (n := 0 - n) (by omega) (by omega); simp only [List.size_toArray, List.length_singleton]; omega); done) | ((have h8 := e1 (by omega); have h9 := hpre.2; rw [Nat.pow_succ] at h9; omega); done) | ((have h8 := e1 (by omega); have h9 := e2 (by omega); omega); done) | (omega; done) | ((constructor <;> omega); done))
theorem sat_spec_decimal : Sat Tryd.prog rt0 42 (wkIn spDecI) := sat_in (sat_out sat_dec_I)
end Go.Proofs.YthphndhiacikaaaDoor
