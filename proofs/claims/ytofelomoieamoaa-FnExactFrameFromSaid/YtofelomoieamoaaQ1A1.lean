/- Contracts of functions of the program vectorraster, each proved for all states that fit its description. No conditions. -/
import Derived.Test.YtofelomoieamoaaKK
set_option maxRecDepth 100000
set_option linter.unusedSimpArgs false
set_option linter.unusedVariables false
namespace Go.Proofs.Ytofelomoieamoaa
open Go Go.VE
theorem fdiv_eq (a b : Int) : a / b = if 0 < b then (if a.tmod b < 0 then a.tdiv b - 1 else a.tdiv b) else a / b := by
  split
  · rename_i hb
    have e := Int.mul_tdiv_add_tmod a b
    have e1 := Int.mul_ediv_add_emod a b
    have m1 := Int.emod_nonneg a (by omega : b ≠ 0)
    have m2 := Int.emod_lt_of_pos a hb
    have t1 := Int.tmod_lt_of_pos a hb
    have t0 : -b < a.tmod b := by
      rcases Int.lt_or_le a 0 with ha | ha
      · have := Int.tmod_lt_of_pos (-a) hb
        rw [Int.neg_tmod] at this
        omega
      · have := Int.tmod_nonneg b ha
        omega
    generalize a / b = q at *
    generalize a % b = r at *
    generalize a.tdiv b = s at *
    generalize a.tmod b = t at *
    have hk : b * (q - s) = t - r := by rw [Int.mul_sub]; omega
    have h1 : q - s < 1 ∧ -2 < q - s := by
      constructor
      · by_cases h : q - s < 1
        · exact h
        · have := Int.mul_le_mul_of_nonneg_left (show 1 ≤ q - s by omega) (show 0 ≤ b by omega)
          omega
      · by_cases h : -2 < q - s
        · exact h
        · have := Int.mul_le_mul_of_nonneg_left (show q - s ≤ -2 by omega) (show 0 ≤ b by omega)
          omega
    have h2 : q - s = 0 ∨ q - s = -1 := by omega
    rcases h2 with h2 | h2 <;> rw [h2] at hk <;> split <;> omega
  · rfl
def spIn_A : Int × Int × Int → List AV
  | (n, lo, hi) => [I n, I lo, I hi]
def spIn_pre : Int × Int × Int → Prop
  | (n, lo, hi) => True
def spIn_post : Int × Int × Int → AV → List Box → Prop
  | (n, lo, hi), r, bs => r = B (decide (lo ≤ n ∧ n ≤ hi)) ∧ bs = []
def spIn : VE.Spec := famSpec spIn_A d_i_i_i spIn_pre spIn_post 0 true
theorem spIn_q : spIn.flat = true ∧ spIn.mt = [] ∧ spIn.shut = false ∧ spIn.cost = 0 ∧ (∀ a i, spIn.pre a i = (i = [] ∧ famPre d_i_i_i spIn_A spIn_pre a)) ∧ ∀ a i r b, spIn.post a i r b = (famPost d_i_i_i spIn_post a r b) := ⟨rfl, rfl, rfl, rfl, fun _ _ => rfl, fun _ _ _ _ => rfl⟩
def tb53 : Nat → Option VE.Spec := tabOf []
theorem tb53_ok : TabOK Try.prog rt0 tb53 := tabOf_nil
set_option maxHeartbeats 4000000 in
theorem sat_impl_in_0 : Sat Try.prog rt0 53 (wkOut spIn) := by
  refine fn_sat hm ttok (tab := tb53) tb53_ok Try.func53 (c := Try.f53.body.getD .skip) (by kernel_rfl) (ts := [.tmp 6]) (by kernel_rfl) Try.ntmps53 (sq := fun _ => true) (by kernel_rfl) ?_
  intro args ins pk hpre0 hpk
  obtain ⟨rfl, hpre0⟩ := hpre0
  obtain ⟨⟨n, lo, hi⟩, rfl, hpre, hdec⟩ := famPre_ex hpre0
  clear hpre0 hdec
  try simp only [spIn_pre] at hpre
  replace hpk : pk + 0 ≤ pickLimit := hpk
  refine ⟨Nat.le_of_ble_eq_true rfl, ?_⟩
  simp (config := { maxSteps := 1000000 }) only [go_sem, ↓ifP_true, ↓ifP_false, ↓ifP_not, Nat.reduceLT, Nat.reduceAdd, Nat.reduceBEq, Nat.reduceSub, Nat.reduceLeDiff, Nat.reduceEqDiff, Nat.reduceMul, Int.reduceToNat, Int.reduceEq, Int.reduceLT, Int.reduceLE, Int.reduceAdd, Int.reduceSub, Int.reduceMul, reduceCtorEq, cond_true, cond_false, forall_eq', forall_eq, forall_const, implies_true, if_true, if_false, exists_eq_left', exists_eq', exists_eq, ne_eq, Try.f53, spIn_q, spIn_A, spIn_pre, spIn_post]
  repeat' (first | apply And.intro | (intro _) | omega | assumption | with_reducible rfl)
  all_goals (first | ((simp only [decide_eq_decide, true_eq_decide_iff, false_eq_decide_iff, Bool.not_eq_eq_eq_not, Bool.not_true, Bool.not_false]; omega); done))
theorem sat_impl_in : Sat Try.prog rt0 53 (wkIn spIn) := sat_in (sat_out sat_impl_in_0)
def tb60 : Nat → Option VE.Spec := tabOf []
theorem tb60_ok : TabOK Try.prog rt0 tb60 := tabOf_nil
set_option maxHeartbeats 4000000 in
theorem sat_spec_inRange_0 : Sat Try.prog rt0 60 (wkOut spIn) := by
  refine fn_sat hm ttok (tab := tb60) tb60_ok Try.func60 (c := Try.f60.body.getD .skip) (by kernel_rfl) (ts := [.tmp 6]) (by kernel_rfl) Try.ntmps60 (sq := fun _ => true) (by kernel_rfl) ?_
  intro args ins pk hpre0 hpk
  obtain ⟨rfl, hpre0⟩ := hpre0
  obtain ⟨⟨n, lo, hi⟩, rfl, hpre, hdec⟩ := famPre_ex hpre0
  clear hpre0 hdec
  try simp only [spIn_pre] at hpre
  replace hpk : pk + 0 ≤ pickLimit := hpk
  refine ⟨Nat.le_of_ble_eq_true rfl, ?_⟩
  simp (config := { maxSteps := 1000000 }) only [go_sem, ↓ifP_true, ↓ifP_false, ↓ifP_not, Nat.reduceLT, Nat.reduceAdd, Nat.reduceBEq, Nat.reduceSub, Nat.reduceLeDiff, Nat.reduceEqDiff, Nat.reduceMul, Int.reduceToNat, Int.reduceEq, Int.reduceLT, Int.reduceLE, Int.reduceAdd, Int.reduceSub, Int.reduceMul, reduceCtorEq, cond_true, cond_false, forall_eq', forall_eq, forall_const, implies_true, if_true, if_false, exists_eq_left', exists_eq', exists_eq, ne_eq, Try.f60, spIn_q, spIn_A, spIn_pre, spIn_post]
  repeat' (first | apply And.intro | (intro _) | omega | assumption | with_reducible rfl)
  all_goals (first | ((simp only [decide_eq_decide, true_eq_decide_iff, false_eq_decide_iff, Bool.not_eq_eq_eq_not, Bool.not_true, Bool.not_false]; omega); done))
theorem sat_spec_inRange : Sat Try.prog rt0 60 (wkIn spIn) := sat_in (sat_out sat_spec_inRange_0)
def szd (w h : Int) : Bool := decide ((1 ≤ w ∧ w ≤ 12) ∧ 1 ≤ h ∧ h ≤ 12)
theorem szd_r {w h : Int} (x : szd w h = true) : (1 ≤ w ∧ w ≤ 12) ∧ 1 ≤ h ∧ h ≤ 12 := by simpa only [szd, decide_eq_true_eq] using x
theorem wh_bd {w h : Int} (hz : szd w h = true) : 1 ≤ w * h ∧ w * h ≤ 144 := by
  have := szd_r hz
  constructor
  · have := Int.mul_pos (a := w) (b := h) (by omega) (by omega); omega
  · have := Int.mul_le_mul (a := w) (b := h) (c := 12) (d := 12) (by omega) (by omega) (by omega) (by omega); omega
theorem mul_bd {a b : Int} {m n : Int} (h1 : -m ≤ a) (h2 : a ≤ m) (h3 : -n ≤ b) (h4 : b ≤ n) : -(m * n) ≤ a * b ∧ a * b ≤ m * n := by
  have h5 : (a * b).natAbs ≤ (m * n).natAbs := by
    rw [Int.natAbs_mul, Int.natAbs_mul]
    exact Nat.mul_le_mul (by omega) (by omega)
  have h6 : 0 ≤ m * n := Int.mul_nonneg (by omega) (by omega)
  omega
def spSzd_A : Int × Int → List AV
  | (w, h) => [I w, I h]
def spSzd_pre : Int × Int → Prop
  | (w, h) => True
def spSzd_post : Int × Int → AV → List Box → Prop
  | (w, h), r, bs => r = B (szd w h) ∧ bs = []
def spSzd : VE.Spec := famSpec spSzd_A d_i_i spSzd_pre spSzd_post 0 true
theorem spSzd_q : spSzd.flat = true ∧ spSzd.mt = [] ∧ spSzd.shut = false ∧ spSzd.cost = 0 ∧ (∀ a i, spSzd.pre a i = (i = [] ∧ famPre d_i_i spSzd_A spSzd_pre a)) ∧ ∀ a i r b, spSzd.post a i r b = (famPost d_i_i spSzd_post a r b) := ⟨rfl, rfl, rfl, rfl, fun _ _ => rfl, fun _ _ _ _ => rfl⟩
def tb39 : Nat → Option VE.Spec := tabOf [(53, wkIn spIn)]
theorem tb39_53 : tb39 53 = some (wkIn spIn) := rfl
theorem tb39_ok : TabOK Try.prog rt0 tb39 := (tabOf_cons (by kernel_rfl) sat_impl_in tabOf_nil)
set_option maxHeartbeats 4000000 in
theorem sat_impl_sized_0 : Sat Try.prog rt0 39 (wkOut spSzd) := by
  refine fn_sat hm ttok (tab := tb39) tb39_ok Try.func39 (c := Try.f39.body.getD .skip) (by kernel_rfl) (ts := [.tmp 4]) (by kernel_rfl) Try.ntmps39 (sq := fun _ => true) (by kernel_rfl) ?_
  intro args ins pk hpre0 hpk
  obtain ⟨rfl, hpre0⟩ := hpre0
  obtain ⟨⟨w, h⟩, rfl, hpre, hdec⟩ := famPre_ex hpre0
  clear hpre0 hdec
  try simp only [spSzd_pre] at hpre
  replace hpk : pk + 0 ≤ pickLimit := hpk
  refine ⟨Nat.le_of_ble_eq_true rfl, ?_⟩
  simp (config := { maxSteps := 1000000 }) only [go_sem, ↓ifP_true, ↓ifP_false, ↓ifP_not, Nat.reduceLT, Nat.reduceAdd, Nat.reduceBEq, Nat.reduceSub, Nat.reduceLeDiff, Nat.reduceEqDiff, Nat.reduceMul, Int.reduceToNat, Int.reduceEq, Int.reduceLT, Int.reduceLE, Int.reduceAdd, Int.reduceSub, Int.reduceMul, reduceCtorEq, cond_true, cond_false, forall_eq', forall_eq, forall_const, implies_true, if_true, if_false, exists_eq_left', exists_eq', exists_eq, ne_eq, Try.f39, tb39_53, spSzd_q, spSzd_A, spSzd_pre, spSzd_post, spIn_q, spIn_A, spIn_pre, spIn_post, szd]
  repeat' (first | apply And.intro | (intro _) | omega | assumption | with_reducible rfl)
  all_goals (first | ((simp only [decide_eq_decide, true_eq_decide_iff, false_eq_decide_iff, Bool.not_eq_eq_eq_not, Bool.not_true, Bool.not_false]; omega); done) | (grind; done))
theorem sat_impl_sized : Sat Try.prog rt0 39 (wkIn spSzd) := sat_in (sat_out sat_impl_sized_0)
def tb41 : Nat → Option VE.Spec := tabOf [(60, wkIn spIn)]
theorem tb41_60 : tb41 60 = some (wkIn spIn) := rfl
theorem tb41_ok : TabOK Try.prog rt0 tb41 := (tabOf_cons (by kernel_rfl) sat_spec_inRange tabOf_nil)
set_option maxHeartbeats 4000000 in
theorem sat_spec_validSize_0 : Sat Try.prog rt0 41 (wkOut spSzd) := by
  refine fn_sat hm ttok (tab := tb41) tb41_ok Try.func41 (c := Try.f41.body.getD .skip) (by kernel_rfl) (ts := [.tmp 4]) (by kernel_rfl) Try.ntmps41 (sq := fun _ => true) (by kernel_rfl) ?_
  intro args ins pk hpre0 hpk
  obtain ⟨rfl, hpre0⟩ := hpre0
  obtain ⟨⟨w, h⟩, rfl, hpre, hdec⟩ := famPre_ex hpre0
  clear hpre0 hdec
  try simp only [spSzd_pre] at hpre
  replace hpk : pk + 0 ≤ pickLimit := hpk
  refine ⟨Nat.le_of_ble_eq_true rfl, ?_⟩
  simp (config := { maxSteps := 1000000 }) only [go_sem, ↓ifP_true, ↓ifP_false, ↓ifP_not, Nat.reduceLT, Nat.reduceAdd, Nat.reduceBEq, Nat.reduceSub, Nat.reduceLeDiff, Nat.reduceEqDiff, Nat.reduceMul, Int.reduceToNat, Int.reduceEq, Int.reduceLT, Int.reduceLE, Int.reduceAdd, Int.reduceSub, Int.reduceMul, reduceCtorEq, cond_true, cond_false, forall_eq', forall_eq, forall_const, implies_true, if_true, if_false, exists_eq_left', exists_eq', exists_eq, ne_eq, Try.f41, tb41_60, spSzd_q, spSzd_A, spSzd_pre, spSzd_post, spIn_q, spIn_A, spIn_pre, spIn_post, szd]
  repeat' (first | apply And.intro | (intro _) | omega | assumption | with_reducible rfl)
  all_goals (first | ((simp only [decide_eq_decide, true_eq_decide_iff, false_eq_decide_iff, Bool.not_eq_eq_eq_not, Bool.not_true, Bool.not_false]; omega); done) | (grind; done))
theorem sat_spec_validSize : Sat Try.prog rt0 41 (wkIn spSzd) := sat_in (sat_out sat_spec_validSize_0)
def spFloor_A : Int × Int → List AV
  | (a, b) => [I a, I b]
def spFloor_pre : Int × Int → Prop
  | (a, b) => 1 ≤ b ∧ b ≤ 1000000000000000 ∧ -1000000000000000 ≤ a ∧ a ≤ 1000000000000000
def spFloor_post : Int × Int → AV → List Box → Prop
  | (a, b), r, bs => r = I (a / b) ∧ bs = []
def spFloor : VE.Spec := famSpec spFloor_A d_i_i spFloor_pre spFloor_post 0 true
theorem spFloor_q : spFloor.flat = true ∧ spFloor.mt = [] ∧ spFloor.shut = false ∧ spFloor.cost = 0 ∧ (∀ a i, spFloor.pre a i = (i = [] ∧ famPre d_i_i spFloor_A spFloor_pre a)) ∧ ∀ a i r b, spFloor.post a i r b = (famPost d_i_i spFloor_post a r b) := ⟨rfl, rfl, rfl, rfl, fun _ _ => rfl, fun _ _ _ _ => rfl⟩
def tb80 : Nat → Option VE.Spec := tabOf []
theorem tb80_ok : TabOK Try.prog rt0 tb80 := tabOf_nil
set_option maxHeartbeats 4000000 in
theorem sat_spec_floorDiv_0 : Sat Try.prog rt0 80 (wkOut spFloor) := by
  refine fn_sat hm ttok (tab := tb80) tb80_ok Try.func80 (c := Try.f80.body.getD .skip) (by kernel_rfl) (ts := [.tmp 4]) (by kernel_rfl) Try.ntmps80 (sq := fun _ => true) (by kernel_rfl) ?_
  intro args ins pk hpre0 hpk
  obtain ⟨rfl, hpre0⟩ := hpre0
  obtain ⟨⟨a, b⟩, rfl, hpre, hdec⟩ := famPre_ex hpre0
  clear hpre0 hdec
  try simp only [spFloor_pre] at hpre
  replace hpk : pk + 0 ≤ pickLimit := hpk
  refine ⟨Nat.le_of_ble_eq_true rfl, ?_⟩
  simp (config := { maxSteps := 1000000 }) only [go_sem, ↓ifP_true, ↓ifP_false, ↓ifP_not, Nat.reduceLT, Nat.reduceAdd, Nat.reduceBEq, Nat.reduceSub, Nat.reduceLeDiff, Nat.reduceEqDiff, Nat.reduceMul, Int.reduceToNat, Int.reduceEq, Int.reduceLT, Int.reduceLE, Int.reduceAdd, Int.reduceSub, Int.reduceMul, reduceCtorEq, cond_true, cond_false, forall_eq', forall_eq, forall_const, implies_true, if_true, if_false, exists_eq_left', exists_eq', exists_eq, ne_eq, Try.f80, spFloor_q, spFloor_A, spFloor_pre, spFloor_post]
  have e := fdiv_eq a b
  rw [if_pos (by omega)] at e
  have h1 : (a.tdiv b).natAbs ≤ a.natAbs := by rw [Int.natAbs_tdiv]; exact Nat.div_le_self _ _
  repeat' (first | apply And.intro | (intro _) | omega | assumption | with_reducible rfl)
  all_goals (first | ((rw [if_pos (by omega)] at e; omega); done) | ((rw [if_neg (by omega)] at e; omega); done))
theorem sat_spec_floorDiv : Sat Try.prog rt0 80 (wkIn spFloor) := sat_in (sat_out sat_spec_floorDiv_0)
def vCol (c : Colr) : Bool := decide (0 ≤ c.a ∧ c.a ≤ 255) && decide (0 ≤ c.r ∧ c.r ≤ c.a) && decide (0 ≤ c.g ∧ c.g ≤ c.a) && decide (0 ≤ c.b ∧ c.b ≤ c.a)
def vFrm (f : Frm) : Bool := szd f.w f.h && decide ((f.px.length : Int) = f.w * f.h) && f.px.all vCol
theorem vFrm_parts {f : Frm} (h : vFrm f = true) : szd f.w f.h = true ∧ (f.px.length : Int) = f.w * f.h ∧ f.px.all vCol = true := by
  simp only [vFrm, Bool.and_eq_true, decide_eq_true_eq] at h
  exact ⟨h.1.1, h.1.2, h.2⟩
def spAll_A : (List Int) × Int × Int → List AV
  | (l, lo, hi) => [.c (.sl false (l.map intC)), I lo, I hi]
def spAll_pre : (List Int) × Int × Int → Prop
  | (l, lo, hi) => l.length ≤ 1000000
def spAll_post : (List Int) × Int × Int → AV → List Box → Prop
  | (l, lo, hi), r, bs => r = B (l.all fun n => decide (lo ≤ n ∧ n ≤ hi)) ∧ bs = []
def spAll : VE.Spec := famSpec spAll_A d_li_i_i spAll_pre spAll_post 0 true
theorem spAll_q : spAll.flat = true ∧ spAll.mt = [] ∧ spAll.shut = false ∧ spAll.cost = 0 ∧ (∀ a i, spAll.pre a i = (i = [] ∧ famPre d_li_i_i spAll_A spAll_pre a)) ∧ ∀ a i r b, spAll.post a i r b = (famPost d_li_i_i spAll_post a r b) := ⟨rfl, rfl, rfl, rfl, fun _ _ => rfl, fun _ _ _ _ => rfl⟩
def tb75 : Nat → Option VE.Spec := tabOf [(60, wkIn spIn)]
theorem tb75_60 : tb75 60 = some (wkIn spIn) := rfl
theorem tb75_ok : TabOK Try.prog rt0 tb75 := (tabOf_cons (by kernel_rfl) sat_spec_inRange tabOf_nil)
set_option maxHeartbeats 4000000 in
theorem sat_spec_allIn_0 : Sat Try.prog rt0 75 (wkOut spAll) := by
  refine fn_sat hm ttok (tab := tb75) tb75_ok Try.func75 (c := Try.f75.body.getD .skip) (by kernel_rfl) (ts := [.tmp 6]) (by kernel_rfl) Try.ntmps75 (sq := fun _ => true) (by kernel_rfl) ?_
  intro args ins pk hpre0 hpk
  obtain ⟨rfl, hpre0⟩ := hpre0
  obtain ⟨⟨l, lo, hi⟩, rfl, hpre, hdec⟩ := famPre_ex hpre0
  clear hpre0 hdec
  try simp only [spAll_pre] at hpre
  replace hpk : pk + 0 ≤ pickLimit := hpk
  refine ⟨Nat.le_of_ble_eq_true rfl, ?_⟩
  simp (config := { maxSteps := 1000000 }) only [go_sem, ↓ifP_true, ↓ifP_false, ↓ifP_not, Nat.reduceLT, Nat.reduceAdd, Nat.reduceBEq, Nat.reduceSub, Nat.reduceLeDiff, Nat.reduceEqDiff, Nat.reduceMul, Int.reduceToNat, Int.reduceEq, Int.reduceLT, Int.reduceLE, Int.reduceAdd, Int.reduceSub, Int.reduceMul, reduceCtorEq, cond_true, cond_false, forall_eq', forall_eq, forall_const, implies_true, if_true, if_false, exists_eq_left', exists_eq', exists_eq, ne_eq, Try.f75, tb75_60, spAll_q, spAll_A, spAll_pre, spAll_post, spIn_q, spIn_A, spIn_pre, spIn_post]
  repeat' (first | apply And.intro | (intro _) | omega | assumption | with_reducible rfl)
  refine loopS (α := Int) false [3, 4, 5, 6, 7, 8, 9, 10, 11, 12, 13, 14, 15, 16, 17, 18, 19, 20, 21] (fun σ => []) (fun σ x => [(7, I x)]) (fun σ x => []) (fun i => 0) (fun σ => gI (σ.get 7)) (fun σ τ => []) (fun i => 0 ≤ i ∧ i ≤ l.length ∧ ((l.take i.toNat).all fun n => decide (lo ≤ n ∧ n ≤ hi)) = true) (fun i => (l.length - i).toNat) ⟨by (simp (config := { maxSteps := 1000000 }) only [go_sem, ↓ifP_true, ↓ifP_false, ↓ifP_not, Nat.reduceLT, Nat.reduceAdd, Nat.reduceBEq, Nat.reduceSub, Nat.reduceLeDiff, Nat.reduceEqDiff, Nat.reduceMul, Int.reduceToNat, Int.reduceEq, Int.reduceLT, Int.reduceLE, Int.reduceAdd, Int.reduceSub, Int.reduceMul, reduceCtorEq, cond_true, cond_false, forall_eq', forall_eq, forall_const, implies_true, if_true, if_false, exists_eq_left', exists_eq', exists_eq, ne_eq, Try.f75, tb75_60, spAll_q, spAll_A, spAll_pre, spAll_post, spIn_q, spIn_A, spIn_pre, spIn_post]; (repeat' (first | apply And.intro | (intro _) | omega | assumption | with_reducible rfl))), ?_⟩
  rintro i hinv
  try dsimp only at hinv
  simp (config := { maxSteps := 1000000 }) only [go_sem, ↓ifP_true, ↓ifP_false, ↓ifP_not, Nat.reduceLT, Nat.reduceAdd, Nat.reduceBEq, Nat.reduceSub, Nat.reduceLeDiff, Nat.reduceEqDiff, Nat.reduceMul, Int.reduceToNat, Int.reduceEq, Int.reduceLT, Int.reduceLE, Int.reduceAdd, Int.reduceSub, Int.reduceMul, reduceCtorEq, cond_true, cond_false, forall_eq', forall_eq, forall_const, implies_true, if_true, if_false, exists_eq_left', exists_eq', exists_eq, ne_eq, Try.f75, tb75_60, spAll_q, spAll_A, spAll_pre, spAll_post, spIn_q, spIn_A, spIn_pre, spIn_post]
  repeat' (first | apply And.intro | (intro _) | omega | assumption | with_reducible rfl)
  all_goals (first | (grind [→ takeN, takeA, all_bad]; done))
theorem sat_spec_allIn : Sat Try.prog rt0 75 (wkIn spAll) := sat_in (sat_out sat_spec_allIn_0)
def spVCol_A : Colr → List AV
  | c => [.agg (coC c)]
def spVCol_pre : Colr → Prop
  | c => True
def spVCol_post : Colr → AV → List Box → Prop
  | c, r, bs => r = B (vCol c) ∧ bs = []
def spVCol : VE.Spec := famSpec spVCol_A d_co spVCol_pre spVCol_post 0 true
theorem spVCol_q : spVCol.flat = true ∧ spVCol.mt = [] ∧ spVCol.shut = false ∧ spVCol.cost = 0 ∧ (∀ a i, spVCol.pre a i = (i = [] ∧ famPre d_co spVCol_A spVCol_pre a)) ∧ ∀ a i r b, spVCol.post a i r b = (famPost d_co spVCol_post a r b) := ⟨rfl, rfl, rfl, rfl, fun _ _ => rfl, fun _ _ _ _ => rfl⟩
def tb65 : Nat → Option VE.Spec := tabOf [(53, wkIn spIn)]
theorem tb65_53 : tb65 53 = some (wkIn spIn) := rfl
theorem tb65_ok : TabOK Try.prog rt0 tb65 := (tabOf_cons (by kernel_rfl) sat_impl_in tabOf_nil)
set_option maxHeartbeats 4000000 in
theorem sat_impl_ValidColor_0 : Sat Try.prog rt0 65 (wkOut spVCol) := by
  refine fn_sat hm ttok (tab := tb65) tb65_ok Try.func65 (c := Try.f65.body.getD .skip) (by kernel_rfl) (ts := [.tmp 2]) (by kernel_rfl) Try.ntmps65 (sq := fun _ => true) (by kernel_rfl) ?_
  intro args ins pk hpre0 hpk
  obtain ⟨rfl, hpre0⟩ := hpre0
  obtain ⟨c, rfl, hpre, hdec⟩ := famPre_ex hpre0
  clear hpre0 hdec
  try simp only [spVCol_pre] at hpre
  replace hpk : pk + 0 ≤ pickLimit := hpk
  refine ⟨Nat.le_of_ble_eq_true rfl, ?_⟩
  simp (config := { maxSteps := 1000000 }) only [go_sem, ↓ifP_true, ↓ifP_false, ↓ifP_not, Nat.reduceLT, Nat.reduceAdd, Nat.reduceBEq, Nat.reduceSub, Nat.reduceLeDiff, Nat.reduceEqDiff, Nat.reduceMul, Int.reduceToNat, Int.reduceEq, Int.reduceLT, Int.reduceLE, Int.reduceAdd, Int.reduceSub, Int.reduceMul, reduceCtorEq, cond_true, cond_false, forall_eq', forall_eq, forall_const, implies_true, if_true, if_false, exists_eq_left', exists_eq', exists_eq, ne_eq, Try.f65, tb65_53, spVCol_q, spVCol_A, spVCol_pre, spVCol_post, spIn_q, spIn_A, spIn_pre, spIn_post]
  repeat' (first | apply And.intro | (intro _) | omega | assumption | with_reducible rfl)
  all_goals (first | (simp [vCol, *]; done) | ((simp only [vCol]; grind); done) | (grind [vCol]; done) | (simp_all [vCol]; done))
theorem sat_impl_ValidColor : Sat Try.prog rt0 65 (wkIn spVCol) := sat_in (sat_out sat_impl_ValidColor_0)
def tb66 : Nat → Option VE.Spec := tabOf [(60, wkIn spIn), (75, wkIn spAll)]
theorem tb66_60 : tb66 60 = some (wkIn spIn) := rfl
theorem tb66_75 : tb66 75 = some (wkIn spAll) := rfl
theorem tb66_ok : TabOK Try.prog rt0 tb66 := (tabOf_cons (by kernel_rfl) sat_spec_inRange (tabOf_cons (by kernel_rfl) sat_spec_allIn tabOf_nil))
set_option maxHeartbeats 4000000 in
theorem sat_spec_validColor_0 : Sat Try.prog rt0 66 (wkOut spVCol) := by
  refine fn_sat hm ttok (tab := tb66) tb66_ok Try.func66 (c := Try.f66.body.getD .skip) (by kernel_rfl) (ts := [.tmp 2]) (by kernel_rfl) Try.ntmps66 (sq := fun _ => true) (by kernel_rfl) ?_
  intro args ins pk hpre0 hpk
  obtain ⟨rfl, hpre0⟩ := hpre0
  obtain ⟨c, rfl, hpre, hdec⟩ := famPre_ex hpre0
  clear hpre0 hdec
  try simp only [spVCol_pre] at hpre
  replace hpk : pk + 0 ≤ pickLimit := hpk
  refine ⟨Nat.le_of_ble_eq_true rfl, ?_⟩
  simp (config := { maxSteps := 1000000 }) only [go_sem, ↓ifP_true, ↓ifP_false, ↓ifP_not, Nat.reduceLT, Nat.reduceAdd, Nat.reduceBEq, Nat.reduceSub, Nat.reduceLeDiff, Nat.reduceEqDiff, Nat.reduceMul, Int.reduceToNat, Int.reduceEq, Int.reduceLT, Int.reduceLE, Int.reduceAdd, Int.reduceSub, Int.reduceMul, reduceCtorEq, cond_true, cond_false, forall_eq', forall_eq, forall_const, implies_true, if_true, if_false, exists_eq_left', exists_eq', exists_eq, ne_eq, Try.f66, tb66_60, tb66_75, spVCol_q, spVCol_A, spVCol_pre, spVCol_post, spIn_q, spIn_A, spIn_pre, spIn_post, spAll_q, spAll_A, spAll_pre, spAll_post]
  repeat' (first | apply And.intro | (intro _) | omega | assumption | with_reducible rfl)
  all_goals (first | (simp [vCol, *]; done) | ((simp only [vCol]; grind); done) | (grind [vCol]; done) | (simp_all [vCol]; done))
theorem sat_spec_validColor : Sat Try.prog rt0 66 (wkIn spVCol) := sat_in (sat_out sat_spec_validColor_0)
end Go.Proofs.Ytofelomoieamoaa
