/- Contracts of functions of the program vectorraster, each proved for all states that fit its description. No conditions. -/
import Derived.Test.YtofelomoieamoaaQ1A2
import Derived.Test.YtofelomoieamoaaKK
set_option maxRecDepth 100000
set_option linter.unusedSimpArgs false
set_option linter.unusedVariables false
namespace Go.Proofs.Ytofelomoieamoaa
open Go Go.VE
def gMp : AV → Nat
  | .mp b _ => b
  | _ => 0
attribute [go_sem] gMp
def colK (c : Colr) : List Int := [c.r, c.g, c.b, c.a]
theorem colK_inj {a b : Colr} (h : colK a = colK b) : a = b := by
  cases a; cases b
  simpa [colK] using h
theorem coC_intsOf (c : Colr) : intsOf (coC c) = colK c := rfl
def insC (c : Colr) : List Colr → List Colr
  | [] => [c]
  | x :: r => if c = x then x :: r else x :: insC c r
theorem insK_col (c : Colr) : ∀ l : List Colr, insK (colK c) (l.map colK) = (insC c l).map colK
  | [] => rfl
  | x :: r => by
    by_cases h : c = x
    · subst h; simp [insK, insC]
    · have h' : ¬ colK c = colK x := fun e => h (colK_inj e)
      simp [insK, insC, h, h', insK_col c r]
def cols (l : List Colr) : List Colr := l.foldl (fun o c => insC c o) []
theorem cols_step {l : List Colr} {i : Nat} {c : Colr} (h : l[i]? = some c) : cols (l.take (i + 1)) = insC c (cols (l.take i)) := by
  rw [List.take_add_one, h]
  simp [cols]
def countF (f : Frm) : Int := if vFrm f = true then (cols f.px).length else -1
theorem count_yes {f : Frm} (h : vFrm f = true) : countF f = (cols f.px).length := if_pos h
theorem count_no {f : Frm} (h : vFrm f = false) : countF f = -1 := if_neg (by rw [h]; decide)
theorem insC_mem {c : Colr} : ∀ {l : List Colr}, c ∈ l → insC c l = l
  | x :: r, h => by
    by_cases e : c = x
    · simp [insC, e]
    · rcases List.mem_cons.1 h with h | h
      · exact absurd h e
      · simp [insC, e, insC_mem h]
theorem insC_new {c : Colr} : ∀ {l : List Colr}, c ∉ l → insC c l = l ++ [c]
  | [], _ => rfl
  | x :: r, h => by
    simp only [List.mem_cons, not_or] at h
    simp [insC, h.1, insC_new h.2]
theorem mem_insC {c x : Colr} {l : List Colr} : x ∈ insC c l ↔ x ∈ l ∨ x = c := by
  by_cases h : c ∈ l
  · rw [insC_mem h]
    exact ⟨.inl, fun q => q.elim id fun e => e ▸ h⟩
  · rw [insC_new h]; simp
theorem insC_len (c : Colr) (l : List Colr) : (insC c l).length ≤ l.length + 1 := by
  by_cases h : c ∈ l
  · rw [insC_mem h]; omega
  · rw [insC_new h]; simp
theorem cols_len (l : List Colr) : ∀ i, (cols (l.take i)).length ≤ i
  | 0 => by simp [cols]
  | i + 1 => by
    have h := cols_len l i
    cases hi : l[i]? with
    | none =>
      have hl := List.getElem?_eq_none_iff.1 hi
      rw [List.take_of_length_le (show l.length ≤ i by omega)] at h
      rw [List.take_of_length_le (show l.length ≤ i + 1 by omega)]
      omega
    | some c => rw [cols_step hi]; have := insC_len c (cols (l.take i)); omega
theorem mem_cols {l : List Colr} {x : Colr} : x ∈ cols l ↔ x ∈ l := by
  have h : ∀ (l o : List Colr), x ∈ l.foldl (fun o c => insC c o) o ↔ x ∈ o ∨ x ∈ l := by
    intro l
    induction l with
    | nil => simp
    | cons c l ih =>
      intro o
      rw [List.foldl_cons, ih, mem_insC, List.mem_cons, or_assoc]
  simpa [cols] using h l []
theorem cols_succ {l : List Colr} {i : Nat} {c : Colr} (h : l[i]? = some c) : (cols (l.take (i + 1))).length = (cols (l.take i)).length + (if c ∈ l.take i then 0 else 1) := by
  rw [cols_step h]
  by_cases hm : c ∈ l.take i
  · rw [insC_mem (mem_cols.2 hm), if_pos hm]; rfl
  · rw [insC_new (fun hh => hm (mem_cols.1 hh)), if_neg hm]; simp
theorem cols_end {f : Frm} {i : Int} (hv : vFrm f = true) (hi : ¬ i < (f.px.length : Int)) : ((cols (f.px.take i.toNat)).length : Int) = countF f := by
  rw [count_yes hv, takeA (by omega)]
theorem colsK_step {l : List Colr} {i : Int} {c : Colr} (h0 : 0 ≤ i) (h : l[i.toNat]? = some c) : insK (colK c) ((cols (l.take i.toNat)).map colK) = (cols (l.take (i + 1).toNat)).map colK := by
  rw [insK_col, show (i + 1).toNat = i.toNat + 1 by omega, cols_step h]
theorem fst_step {l : List Colr} {k : Int} {c d : Colr} {b : Bool} (h0 : 0 ≤ k) (h : l[k.toNat]? = some d) (hb : b = !decide (c ∈ l.take k.toNat)) : (b && !decide (d = c)) = !decide (c ∈ l.take (k + 1).toNat) := by
  subst hb
  rw [show (k + 1).toNat = k.toNat + 1 by omega, List.take_add_one, h]
  by_cases hm : c ∈ l.take k.toNat
  · simp [hm]
  · by_cases hd : c = d
    · simp [hd]
    · have hd2 : ¬ d = c := fun e => hd e.symm
      simp [hm, hd, hd2]
theorem fst_T {l : List Colr} {k : Int} {c d : Colr} {b : Bool} (h0 : 0 ≤ k) (h : l[k.toNat]? = some d) (hb : b = !decide (c ∈ l.take k.toNat)) (ht : b = true) : (!decide (d = c)) = !decide (c ∈ l.take (k + 1).toNat) := by
  rw [← fst_step h0 h hb, ht]; rfl
theorem fst_F {l : List Colr} {k : Int} {c : Colr} {b : Bool} (h0 : 0 ≤ k) (hb : b = !decide (c ∈ l.take k.toNat)) (hf : b = false) : false = !decide (c ∈ l.take (k + 1).toNat) := by
  subst hb
  have hm : c ∈ l.take k.toNat := by simpa using hf
  have : c ∈ l.take (k + 1).toNat := by rw [show (k + 1).toNat = k.toNat + 1 by omega, List.take_add_one]; exact List.mem_append_left _ hm
  simp [this]
theorem cnt_step {l : List Colr} {i k : Int} {c : Colr} {b : Bool} (h0 : 0 ≤ i) (h : l[i.toNat]? = some c) (hk : k = i) (hb : b = !decide (c ∈ l.take k.toNat)) : ((cols (l.take i.toNat)).length : Int) + (if b = true then 1 else 0) = (cols (l.take (i + 1).toNat)).length := by
  subst hb hk
  rw [show (k + 1).toNat = k.toNat + 1 by omega, cols_succ h]
  by_cases hm : c ∈ l.take k.toNat <;> simp [hm]
theorem cols_leni (l : List Colr) (i : Int) : (cols (l.take i.toNat)).length ≤ i.toNat := cols_len l _
def spCount_A : Frm → List AV
  | f => [.agg (frC f)]
def spCount_pre : Frm → Prop
  | f => f.px.length ≤ 1000000000
def spCount_post : Frm → AV → List Box → Prop
  | f, r, bs => r = I (countF f) ∧ bs = []
def spCount : VE.Spec := famSpec spCount_A d_fr spCount_pre spCount_post 0 true
theorem spCount_q : spCount.flat = true ∧ spCount.mt = [] ∧ spCount.shut = false ∧ spCount.cost = 0 ∧ (∀ a i, spCount.pre a i = (i = [] ∧ famPre d_fr spCount_A spCount_pre a)) ∧ ∀ a i r b, spCount.post a i r b = (famPost d_fr spCount_post a r b) := ⟨rfl, rfl, rfl, rfl, fun _ _ => rfl, fun _ _ _ _ => rfl⟩
def tb17 : Nat → Option VE.Spec := tabOf [(43, wkIn spVFrm)]
theorem tb17_43 : tb17 43 = some (wkIn spVFrm) := rfl
theorem tb17_ok : TabOK Try.prog rt0 tb17 := (tabOf_cons (by kernel_rfl) sat_impl_Frame_valid tabOf_nil)
set_option maxHeartbeats 4000000 in
theorem sat_impl_ColorCount_0 : Sat Try.prog rt0 17 (wkOut spCount) := by
  refine fn_sat hm ttok (tab := tb17) tb17_ok Try.func17 (c := Try.f17.body.getD .skip) (by kernel_rfl) (ts := [.tmp 2]) (by kernel_rfl) Try.ntmps17 (sq := fun _ => true) (by kernel_rfl) ?_
  intro args ins pk hpre0 hpk
  obtain ⟨rfl, hpre0⟩ := hpre0
  obtain ⟨f, rfl, hpre, hdec⟩ := famPre_ex hpre0
  clear hpre0 hdec
  try simp only [spCount_pre] at hpre
  replace hpk : pk + 0 ≤ pickLimit := hpk
  refine ⟨Nat.le_of_ble_eq_true rfl, ?_⟩
  simp (config := { maxSteps := 1000000 }) only [go_sem, ↓ifP_true, ↓ifP_false, ↓ifP_not, Nat.reduceLT, Nat.reduceAdd, Nat.reduceBEq, Nat.reduceSub, Nat.reduceLeDiff, Nat.reduceEqDiff, Nat.reduceMul, Int.reduceToNat, Int.reduceEq, Int.reduceLT, Int.reduceLE, Int.reduceAdd, Int.reduceSub, Int.reduceMul, reduceCtorEq, cond_true, cond_false, forall_eq', forall_eq, forall_const, implies_true, if_true, if_false, exists_eq_left', exists_eq', exists_eq, ne_eq, Try.f17, tb17_43, spCount_q, spCount_A, spCount_pre, spCount_post, spVFrm_q, spVFrm_A, spVFrm_pre, spVFrm_post, coC_intsOf]
  repeat' (first | apply And.intro | (intro _) | omega | assumption | with_reducible rfl)
  any_goals
    refine loopS (α := Int) false [0, 1, 3, 4, 5, 6, 7, 8, 9, 10, 13, 14, 15, 16, 17, 18, 19] (fun σ => []) (fun σ x => [(13, I x), (3, .mp (gMp (σ.get 3)) ((cols (f.px.take x.toNat)).map colK))]) (fun σ x => []) (fun i => 0) (fun σ => gI (σ.get 13)) (fun σ τ => []) (fun i => 0 ≤ i ∧ i ≤ f.px.length) (fun i => (f.px.length - i).toNat) ⟨by (simp (config := { maxSteps := 1000000 }) only [go_sem, ↓ifP_true, ↓ifP_false, ↓ifP_not, Nat.reduceLT, Nat.reduceAdd, Nat.reduceBEq, Nat.reduceSub, Nat.reduceLeDiff, Nat.reduceEqDiff, Nat.reduceMul, Int.reduceToNat, Int.reduceEq, Int.reduceLT, Int.reduceLE, Int.reduceAdd, Int.reduceSub, Int.reduceMul, reduceCtorEq, cond_true, cond_false, forall_eq', forall_eq, forall_const, implies_true, if_true, if_false, exists_eq_left', exists_eq', exists_eq, ne_eq, Try.f17, tb17_43, spCount_q, spCount_A, spCount_pre, spCount_post, spVFrm_q, spVFrm_A, spVFrm_pre, spVFrm_post, coC_intsOf]; (repeat' (first | apply And.intro | (intro _) | omega | assumption | with_reducible rfl)); all_goals (first | rfl | omega)), ?_⟩
    rintro i hinv
    try dsimp only at hinv
    rcases elemAt f.px i (by omega) with ⟨hlt, c, hk⟩ | hlt
    all_goals (first | ((have hlt2 := of_eq_true hlt); all_goals simp (config := { maxSteps := 1000000 }) only [go_sem, ↓ifP_true, ↓ifP_false, ↓ifP_not, Nat.reduceLT, Nat.reduceAdd, Nat.reduceBEq, Nat.reduceSub, Nat.reduceLeDiff, Nat.reduceEqDiff, Nat.reduceMul, Int.reduceToNat, Int.reduceEq, Int.reduceLT, Int.reduceLE, Int.reduceAdd, Int.reduceSub, Int.reduceMul, reduceCtorEq, cond_true, cond_false, forall_eq', forall_eq, forall_const, implies_true, if_true, if_false, exists_eq_left', exists_eq', exists_eq, ne_eq, Try.f17, tb17_43, spCount_q, spCount_A, spCount_pre, spCount_post, spVFrm_q, spVFrm_A, spVFrm_pre, spVFrm_post, coC_intsOf, hlt, hk]) | (have hlt2 := of_eq_false hlt; simp (config := { maxSteps := 1000000 }) only [go_sem, ↓ifP_true, ↓ifP_false, ↓ifP_not, Nat.reduceLT, Nat.reduceAdd, Nat.reduceBEq, Nat.reduceSub, Nat.reduceLeDiff, Nat.reduceEqDiff, Nat.reduceMul, Int.reduceToNat, Int.reduceEq, Int.reduceLT, Int.reduceLE, Int.reduceAdd, Int.reduceSub, Int.reduceMul, reduceCtorEq, cond_true, cond_false, forall_eq', forall_eq, forall_const, implies_true, if_true, if_false, exists_eq_left', exists_eq', exists_eq, ne_eq, Try.f17, tb17_43, spCount_q, spCount_A, spCount_pre, spCount_post, spVFrm_q, spVFrm_A, spVFrm_pre, spVFrm_post, coC_intsOf, hlt]))
    all_goals
      repeat' (first | apply And.intro | (intro _) | omega | assumption | with_reducible rfl)
  
  all_goals (first | (omega; done) | (rfl; done) | ((rw [count_no ‹_›]); done) | (exact (count_no ‹_›).symm; done) | (exact colsK_step hinv.1 hk; done) | (exact cols_end ‹vFrm f = true› hlt2; done) | ((obtain ⟨q, _, rfl⟩ := List.mem_map.1 ‹_ ∈ List.map colK _›; rfl); done) | (skip; done))
theorem sat_impl_ColorCount : Sat Try.prog rt0 17 (wkIn spCount) := sat_in (sat_out sat_impl_ColorCount_0)
def spToInt_A : Bool → List AV
  | b => [B b]
def spToInt_pre : Bool → Prop
  | b => True
def spToInt_post : Bool → AV → List Box → Prop
  | b, r, bs => r = I (if b = true then 1 else 0) ∧ bs = []
def spToInt : VE.Spec := famSpec spToInt_A d_b spToInt_pre spToInt_post 0 true
theorem spToInt_q : spToInt.flat = true ∧ spToInt.mt = [] ∧ spToInt.shut = false ∧ spToInt.cost = 0 ∧ (∀ a i, spToInt.pre a i = (i = [] ∧ famPre d_b spToInt_A spToInt_pre a)) ∧ ∀ a i r b, spToInt.post a i r b = (famPost d_b spToInt_post a r b) := ⟨rfl, rfl, rfl, rfl, fun _ _ => rfl, fun _ _ _ _ => rfl⟩
def tb46 : Nat → Option VE.Spec := tabOf []
theorem tb46_ok : TabOK Try.prog rt0 tb46 := tabOf_nil
set_option maxHeartbeats 4000000 in
theorem sat_spec_toInt_0 : Sat Try.prog rt0 46 (wkOut spToInt) := by
  refine fn_sat hm ttok (tab := tb46) tb46_ok Try.func46 (c := Try.f46.body.getD .skip) (by kernel_rfl) (ts := [.tmp 2]) (by kernel_rfl) Try.ntmps46 (sq := fun _ => true) (by kernel_rfl) ?_
  intro args ins pk hpre0 hpk
  obtain ⟨rfl, hpre0⟩ := hpre0
  obtain ⟨b, rfl, hpre, hdec⟩ := famPre_ex hpre0
  clear hpre0 hdec
  try simp only [spToInt_pre] at hpre
  replace hpk : pk + 0 ≤ pickLimit := hpk
  refine ⟨Nat.le_of_ble_eq_true rfl, ?_⟩
  simp (config := { maxSteps := 1000000 }) only [go_sem, ↓ifP_true, ↓ifP_false, ↓ifP_not, Nat.reduceLT, Nat.reduceAdd, Nat.reduceBEq, Nat.reduceSub, Nat.reduceLeDiff, Nat.reduceEqDiff, Nat.reduceMul, Int.reduceToNat, Int.reduceEq, Int.reduceLT, Int.reduceLE, Int.reduceAdd, Int.reduceSub, Int.reduceMul, reduceCtorEq, cond_true, cond_false, forall_eq', forall_eq, forall_const, implies_true, if_true, if_false, exists_eq_left', exists_eq', exists_eq, ne_eq, Try.f46, spToInt_q, spToInt_A, spToInt_pre, spToInt_post]
  repeat' (first | apply And.intro | (intro _) | omega | assumption | with_reducible rfl)
  all_goals (first | (simp [*]; done) | (skip; done))
theorem sat_spec_toInt : Sat Try.prog rt0 46 (wkIn spToInt) := sat_in (sat_out sat_spec_toInt_0)
def tb19 : Nat → Option VE.Spec := tabOf [(45, wkIn spVFrm), (46, wkIn spToInt)]
theorem tb19_45 : tb19 45 = some (wkIn spVFrm) := rfl
theorem tb19_46 : tb19 46 = some (wkIn spToInt) := rfl
theorem tb19_ok : TabOK Try.prog rt0 tb19 := (tabOf_cons (by kernel_rfl) sat_spec_validFrame (tabOf_cons (by kernel_rfl) sat_spec_toInt tabOf_nil))
set_option maxHeartbeats 4000000 in
theorem sat_spec_ColorCount_0 : Sat Try.prog rt0 19 (wkOut spCount) := by
  refine fn_sat hm ttok (tab := tb19) tb19_ok Try.func19 (c := Try.f19.body.getD .skip) (by kernel_rfl) (ts := [.tmp 2]) (by kernel_rfl) Try.ntmps19 (sq := fun _ => true) (by kernel_rfl) ?_
  intro args ins pk hpre0 hpk
  obtain ⟨rfl, hpre0⟩ := hpre0
  obtain ⟨f, rfl, hpre, hdec⟩ := famPre_ex hpre0
  clear hpre0 hdec
  try simp only [spCount_pre] at hpre
  replace hpk : pk + 0 ≤ pickLimit := hpk
  refine ⟨Nat.le_of_ble_eq_true rfl, ?_⟩
  simp (config := { maxSteps := 1000000 }) only [go_sem, ↓ifP_true, ↓ifP_false, ↓ifP_not, Nat.reduceLT, Nat.reduceAdd, Nat.reduceBEq, Nat.reduceSub, Nat.reduceLeDiff, Nat.reduceEqDiff, Nat.reduceMul, Int.reduceToNat, Int.reduceEq, Int.reduceLT, Int.reduceLE, Int.reduceAdd, Int.reduceSub, Int.reduceMul, reduceCtorEq, cond_true, cond_false, forall_eq', forall_eq, forall_const, implies_true, if_true, if_false, exists_eq_left', exists_eq', exists_eq, ne_eq, Try.f19, tb19_45, tb19_46, spCount_q, spCount_A, spCount_pre, spCount_post, spVFrm_q, spVFrm_A, spVFrm_pre, spVFrm_post, spToInt_q, spToInt_A, spToInt_pre, spToInt_post]
  repeat' (first | apply And.intro | (intro _) | omega | assumption | with_reducible rfl)
  any_goals
    refine loopS (α := Int × Int) false [0, 3, 4, 5, 6, 7, 8, 9, 10, 11, 12, 13, 14, 15, 16, 17, 18, 19, 20, 21, 22, 23, 24, 25, 26, 27, 28, 29, 30, 31, 32, 33, 34, 35, 36, 37, 38, 39] (fun σ => []) (fun σ x => [(4, I x.1), (3, I x.2)]) (fun σ x => []) (fun (i, n) => 0) (fun σ => (gI (σ.get 4), gI (σ.get 3))) (fun σ τ => []) (fun (i, n) => (0 ≤ i ∧ i ≤ f.px.length) ∧ n = (cols (f.px.take i.toNat)).length) (fun (i, n) => (f.px.length - i).toNat) ⟨by (simp (config := { maxSteps := 1000000 }) only [go_sem, ↓ifP_true, ↓ifP_false, ↓ifP_not, Nat.reduceLT, Nat.reduceAdd, Nat.reduceBEq, Nat.reduceSub, Nat.reduceLeDiff, Nat.reduceEqDiff, Nat.reduceMul, Int.reduceToNat, Int.reduceEq, Int.reduceLT, Int.reduceLE, Int.reduceAdd, Int.reduceSub, Int.reduceMul, reduceCtorEq, cond_true, cond_false, forall_eq', forall_eq, forall_const, implies_true, if_true, if_false, exists_eq_left', exists_eq', exists_eq, ne_eq, Try.f19, tb19_45, tb19_46, spCount_q, spCount_A, spCount_pre, spCount_post, spVFrm_q, spVFrm_A, spVFrm_pre, spVFrm_post, spToInt_q, spToInt_A, spToInt_pre, spToInt_post]; (repeat' (first | apply And.intro | (intro _) | omega | assumption | with_reducible rfl)); all_goals (first | rfl | omega)), ?_⟩
    rintro ⟨i, n⟩ hinv
    try dsimp only at hinv
    rcases elemAt f.px i (by omega) with ⟨hlt, c, hk⟩ | hlt
    all_goals (first | ((have hlt2 := of_eq_true hlt); all_goals simp (config := { maxSteps := 1000000 }) only [go_sem, ↓ifP_true, ↓ifP_false, ↓ifP_not, Nat.reduceLT, Nat.reduceAdd, Nat.reduceBEq, Nat.reduceSub, Nat.reduceLeDiff, Nat.reduceEqDiff, Nat.reduceMul, Int.reduceToNat, Int.reduceEq, Int.reduceLT, Int.reduceLE, Int.reduceAdd, Int.reduceSub, Int.reduceMul, reduceCtorEq, cond_true, cond_false, forall_eq', forall_eq, forall_const, implies_true, if_true, if_false, exists_eq_left', exists_eq', exists_eq, ne_eq, Try.f19, tb19_45, tb19_46, spCount_q, spCount_A, spCount_pre, spCount_post, spVFrm_q, spVFrm_A, spVFrm_pre, spVFrm_post, spToInt_q, spToInt_A, spToInt_pre, spToInt_post, hlt, hk]) | (have hlt2 := of_eq_false hlt; simp (config := { maxSteps := 1000000 }) only [go_sem, ↓ifP_true, ↓ifP_false, ↓ifP_not, Nat.reduceLT, Nat.reduceAdd, Nat.reduceBEq, Nat.reduceSub, Nat.reduceLeDiff, Nat.reduceEqDiff, Nat.reduceMul, Int.reduceToNat, Int.reduceEq, Int.reduceLT, Int.reduceLE, Int.reduceAdd, Int.reduceSub, Int.reduceMul, reduceCtorEq, cond_true, cond_false, forall_eq', forall_eq, forall_const, implies_true, if_true, if_false, exists_eq_left', exists_eq', exists_eq, ne_eq, Try.f19, tb19_45, tb19_46, spCount_q, spCount_A, spCount_pre, spCount_post, spVFrm_q, spVFrm_A, spVFrm_pre, spVFrm_post, spToInt_q, spToInt_A, spToInt_pre, spToInt_post, hlt]))
    all_goals
      repeat' (first | apply And.intro | (intro _) | omega | assumption | with_reducible rfl)
  
  any_goals
    have hk0 := hk
    have hlt0 := hlt
    have hI := hinv
    refine loopS (α := Int × Bool) false [0, 5, 6, 7, 8, 9, 10, 11, 12, 13, 14, 15, 16, 17, 18, 19, 20, 21, 22, 23, 24, 25, 26, 27, 28, 29, 30, 31, 32, 33, 34, 35] (fun σ => []) (fun σ x => [(6, I x.1), (5, B x.2)]) (fun σ x => []) (fun (k, b) => 0) (fun σ => (gI (σ.get 6), gBo (σ.get 5))) (fun σ τ => []) (fun (k, b) => (0 ≤ k ∧ k ≤ i) ∧ b = !decide (c ∈ f.px.take k.toNat)) (fun (k, b) => (i - k).toNat) ⟨by (simp (config := { maxSteps := 1000000 }) only [go_sem, ↓ifP_true, ↓ifP_false, ↓ifP_not, Nat.reduceLT, Nat.reduceAdd, Nat.reduceBEq, Nat.reduceSub, Nat.reduceLeDiff, Nat.reduceEqDiff, Nat.reduceMul, Int.reduceToNat, Int.reduceEq, Int.reduceLT, Int.reduceLE, Int.reduceAdd, Int.reduceSub, Int.reduceMul, reduceCtorEq, cond_true, cond_false, forall_eq', forall_eq, forall_const, implies_true, if_true, if_false, exists_eq_left', exists_eq', exists_eq, ne_eq, Try.f19, tb19_45, tb19_46, spCount_q, spCount_A, spCount_pre, spCount_post, spVFrm_q, spVFrm_A, spVFrm_pre, spVFrm_post, spToInt_q, spToInt_A, spToInt_pre, spToInt_post, hlt0, hk0]; (repeat' (first | apply And.intro | (intro _) | omega | assumption | with_reducible rfl)); all_goals (first | rfl | omega | simp)), ?_⟩
    rintro ⟨k, b⟩ hinv
    try dsimp only at hinv
    simp (config := { maxSteps := 1000000 }) only [go_sem, ↓ifP_true, ↓ifP_false, ↓ifP_not, Nat.reduceLT, Nat.reduceAdd, Nat.reduceBEq, Nat.reduceSub, Nat.reduceLeDiff, Nat.reduceEqDiff, Nat.reduceMul, Int.reduceToNat, Int.reduceEq, Int.reduceLT, Int.reduceLE, Int.reduceAdd, Int.reduceSub, Int.reduceMul, reduceCtorEq, cond_true, cond_false, forall_eq', forall_eq, forall_const, implies_true, if_true, if_false, exists_eq_left', exists_eq', exists_eq, ne_eq, Try.f19, tb19_45, tb19_46, spCount_q, spCount_A, spCount_pre, spCount_post, spVFrm_q, spVFrm_A, spVFrm_pre, spVFrm_post, spToInt_q, spToInt_A, spToInt_pre, spToInt_post, hlt0, hk0]
    repeat' (first | apply And.intro | (intro _) | omega | assumption | with_reducible rfl)
  all_goals (first | (omega; done) | (rfl; done) | ((rw [count_no ‹_›]); done) | (exact (count_no ‹_›).symm; done) | (exact hinv.2.trans (cols_end ‹vFrm f = true› hlt2); done) | (exact fst_T hinv.1.1 ‹_› hinv.2 ‹b = true›; done) | (exact fst_F hinv.1.1 hinv.2 ‹b = false›; done) | ((have h9 := cols_leni f.px i; split <;> omega); done) | ((rw [hI.2]; exact cnt_step hI.1.1 hk0 (by omega) hinv.2); done) | (skip; done))
theorem sat_spec_ColorCount : Sat Try.prog rt0 19 (wkIn spCount) := sat_in (sat_out sat_spec_ColorCount_0)
end Go.Proofs.Ytofelomoieamoaa
