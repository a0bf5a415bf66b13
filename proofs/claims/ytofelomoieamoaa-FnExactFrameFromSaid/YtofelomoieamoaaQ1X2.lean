/- Contracts of functions of the program vectorraster, each proved for all states that fit its description. No conditions. -/
import Derived.Test.YtofelomoieamoaaQ1A4
import Derived.Test.YtofelomoieamoaaQ1A2
import Derived.Test.YtofelomoieamoaaKK
set_option maxRecDepth 100000
set_option linter.unusedSimpArgs false
set_option linter.unusedVariables false
namespace Go.Proofs.Ytofelomoieamoaa
open Go Go.VE
theorem eqL_step {α : Type} {a b : List α} {i : Int} {x y : α} (ha : a[i.toNat]? = some x) (hb : b[i.toNat]? = some y) (e : x = y) (h0 : 0 ≤ i) (h : a.take i.toNat = b.take i.toNat) : a.take (i + 1).toNat = b.take (i + 1).toNat := by
  subst e; rw [takeN ha h0, takeN hb h0, h]
theorem eqL_no {α : Type} {a b : List α} {i : Int} {x y : α} (ha : a[i.toNat]? = some x) (hb : b[i.toNat]? = some y) (h : x ≠ y) : a ≠ b := fun e => by
  rw [e, hb] at ha; exact h (Option.some.inj ha).symm
theorem eqL_end {α : Type} {a b : List α} {i : Int} (hl : (a.length : Int) = b.length) (hi : ¬ i < (a.length : Int)) (h : a.take i.toNat = b.take i.toNat) : a = b := by
  rwa [takeA (by omega), takeA (by omega)] at h
theorem eqL_len {α : Type} {a b : List α} (hl : ¬ (a.length : Int) = b.length) : a ≠ b := fun e => hl (by rw [e])
theorem co_neq {a b : Colr} : (a = b) ↔ (a.r = b.r ∧ a.g = b.g ∧ a.b = b.b ∧ a.a = b.a) := by
  cases a; cases b; simp
theorem rn_neq {a b : Rn} : (a = b) ↔ (a.c = b.c ∧ a.m = b.m) := by
  cases a; cases b; simp
theorem fr_neq {a b : Frm} : (a = b) ↔ (a.w = b.w ∧ a.h = b.h ∧ a.px = b.px) := by
  cases a; cases b; simp
def cpL {α : Type} (l : List α) (z : α) (i : Int) : List α := l.take i.toNat ++ List.replicate (l.length - i.toNat) z
theorem cpL_len {α : Type} (l : List α) (z : α) {i : Int} (h : i ≤ (l.length : Int)) : (cpL l z i).length = l.length := by
  unfold cpL; rw [List.length_append, List.length_take, List.length_replicate]; omega
theorem cpL_set {α : Type} {l : List α} {z x : α} {i : Int} (h0 : 0 ≤ i) (h : l[i.toNat]? = some x) : (cpL l z i).set i.toNat x = cpL l z (i + 1) := by
  have hl := (List.getElem?_eq_some_iff.1 h).1
  refine List.ext_getElem? fun j => ?_
  unfold cpL
  rw [show (i + 1).toNat = i.toNat + 1 by omega]
  rw [List.getElem?_set, List.length_append, List.length_take, List.length_replicate]
  by_cases hj : i.toNat = j
  · subst hj
    rw [if_pos rfl, if_pos (by omega), List.getElem?_append_left (by rw [List.length_take]; omega), List.getElem?_take, if_pos (by omega), h]
  · rw [if_neg hj]
    by_cases hlt : j < i.toNat
    · rw [List.getElem?_append_left (by rw [List.length_take]; omega), List.getElem?_append_left (by rw [List.length_take]; omega), List.getElem?_take, List.getElem?_take, if_pos hlt, if_pos (by omega)]
    · rw [List.getElem?_append_right (by rw [List.length_take]; omega), List.getElem?_append_right (by rw [List.length_take]; omega), List.length_take, List.length_take, List.getElem?_replicate, List.getElem?_replicate]
      by_cases hb : j < l.length
      · rw [if_pos (by omega), if_pos (by omega)]
      · rw [if_neg (by omega), if_neg (by omega)]
theorem cpL_end {α : Type} {l : List α} {z : α} {i : Int} (h : ¬ i < (l.length : Int)) : cpL l z i = l := by
  unfold cpL
  rw [show l.length - i.toNat = 0 by omega, List.replicate_zero, List.append_nil, List.take_of_length_le (by omega)]
theorem cpL_0 {α : Type} (l : List α) (z : α) : cpL l z 0 = List.replicate l.length z := by
  unfold cpL; simp
def szL (n : Nat) (left : Int) : Int := if left - n < 0 then -1 else left - n
theorem szL_n {n : Nat} {left : Int} (h : left - n < 0) : szL n left = -1 := if_pos h
theorem szL_y {n : Nat} {left : Int} (h : ¬ left - n < 0) : szL n left = left - n := if_neg h
theorem szL_bd (n : Nat) {left : Int} (h : 0 ≤ left ∧ left ≤ 1048576) : -1 ≤ szL n left ∧ szL n left ≤ 1048576 ∧ (0 ≤ szL n left → (n : Int) ≤ left) := by
  unfold szL; split <;> omega
def spToC_A : Colr → List AV
  | c => [.agg (coC c)]
def spToC_pre : Colr → Prop
  | c => True
def spToC_post : Colr → AV → List Box → Prop
  | c, r, bs => r = .agg (coC (c)) ∧ bs = []
def spToC : VE.Spec := famSpec spToC_A d_co spToC_pre spToC_post 0 true
theorem spToC_q : spToC.flat = true ∧ spToC.mt = [] ∧ spToC.shut = false ∧ spToC.cost = 0 ∧ (∀ a i, spToC.pre a i = (i = [] ∧ famPre d_co spToC_A spToC_pre a)) ∧ ∀ a i r b, spToC.post a i r b = (famPost d_co spToC_post a r b) := ⟨rfl, rfl, rfl, rfl, fun _ _ => rfl, fun _ _ _ _ => rfl⟩
def tb67 : Nat → Option VE.Spec := tabOf []
theorem tb67_ok : TabOK Try.prog rt0 tb67 := tabOf_nil
set_option maxHeartbeats 4000000 in
theorem sat_laws_toColor_0 : Sat Try.prog rt0 67 (wkOut spToC) := by
  refine fn_sat hm ttok (tab := tb67) tb67_ok Try.func67 (c := Try.f67.body.getD .skip) (by kernel_rfl) (ts := [.cell 2 44]) (by kernel_rfl) Try.ntmps67 (sq := fun _ => true) (by kernel_rfl) ?_
  intro args ins pk hpre0 hpk
  obtain ⟨rfl, hpre0⟩ := hpre0
  obtain ⟨c, rfl, hpre, hdec⟩ := famPre_ex hpre0
  clear hpre0 hdec
  try simp only [spToC_pre] at hpre
  replace hpk : pk + 0 ≤ pickLimit := hpk
  refine ⟨Nat.le_of_ble_eq_true rfl, ?_⟩
  simp (config := { maxSteps := 1000000 }) only [go_sem, ↓ifP_true, ↓ifP_false, ↓ifP_not, Nat.reduceLT, Nat.reduceAdd, Nat.reduceBEq, Nat.reduceSub, Nat.reduceLeDiff, Nat.reduceEqDiff, Nat.reduceMul, Int.reduceToNat, Int.reduceEq, Int.reduceLT, Int.reduceLE, Int.reduceAdd, Int.reduceSub, Int.reduceMul, reduceCtorEq, cond_true, cond_false, forall_eq', forall_eq, forall_const, implies_true, if_true, if_false, exists_eq_left', exists_eq', exists_eq, ne_eq, Try.f67, spToC_q, spToC_A, spToC_pre, spToC_post]
  repeat' (first | apply And.intro | (intro _) | omega | assumption | with_reducible rfl)
  all_goals (first | (rfl; done))
theorem sat_laws_toColor : Sat Try.prog rt0 67 (wkIn spToC) := sat_in (sat_out sat_laws_toColor_0)
def spToR_A : Rn → List AV
  | c => [.agg (rnC c)]
def spToR_pre : Rn → Prop
  | c => True
def spToR_post : Rn → AV → List Box → Prop
  | c, r, bs => r = .agg (rnC (c)) ∧ bs = []
def spToR : VE.Spec := famSpec spToR_A d_rn spToR_pre spToR_post 0 true
theorem spToR_q : spToR.flat = true ∧ spToR.mt = [] ∧ spToR.shut = false ∧ spToR.cost = 0 ∧ (∀ a i, spToR.pre a i = (i = [] ∧ famPre d_rn spToR_A spToR_pre a)) ∧ ∀ a i r b, spToR.post a i r b = (famPost d_rn spToR_post a r b) := ⟨rfl, rfl, rfl, rfl, fun _ _ => rfl, fun _ _ _ _ => rfl⟩
def tb61 : Nat → Option VE.Spec := tabOf [(67, wkIn spToC)]
theorem tb61_67 : tb61 67 = some (wkIn spToC) := rfl
theorem tb61_ok : TabOK Try.prog rt0 tb61 := (tabOf_cons (by kernel_rfl) sat_laws_toColor tabOf_nil)
set_option maxHeartbeats 4000000 in
theorem sat_laws_toRun_0 : Sat Try.prog rt0 61 (wkOut spToR) := by
  refine fn_sat hm ttok (tab := tb61) tb61_ok Try.func61 (c := Try.f61.body.getD .skip) (by kernel_rfl) (ts := [.cell 2 46]) (by kernel_rfl) Try.ntmps61 (sq := fun _ => true) (by kernel_rfl) ?_
  intro args ins pk hpre0 hpk
  obtain ⟨rfl, hpre0⟩ := hpre0
  obtain ⟨c, rfl, hpre, hdec⟩ := famPre_ex hpre0
  clear hpre0 hdec
  try simp only [spToR_pre] at hpre
  replace hpk : pk + 0 ≤ pickLimit := hpk
  refine ⟨Nat.le_of_ble_eq_true rfl, ?_⟩
  simp (config := { maxSteps := 1000000 }) only [go_sem, ↓ifP_true, ↓ifP_false, ↓ifP_not, Nat.reduceLT, Nat.reduceAdd, Nat.reduceBEq, Nat.reduceSub, Nat.reduceLeDiff, Nat.reduceEqDiff, Nat.reduceMul, Int.reduceToNat, Int.reduceEq, Int.reduceLT, Int.reduceLE, Int.reduceAdd, Int.reduceSub, Int.reduceMul, reduceCtorEq, cond_true, cond_false, forall_eq', forall_eq, forall_const, implies_true, if_true, if_false, exists_eq_left', exists_eq', exists_eq, ne_eq, Try.f61, tb61_67, spToR_q, spToR_A, spToR_pre, spToR_post, spToC_q, spToC_A, spToC_pre, spToC_post]
  repeat' (first | apply And.intro | (intro _) | omega | assumption | with_reducible rfl)
  all_goals (first | (rfl; done))
theorem sat_laws_toRun : Sat Try.prog rt0 61 (wkIn spToR) := sat_in (sat_out sat_laws_toRun_0)
theorem zr_coC (n : Nat) : List.replicate n [C.v (.int .i64 0), C.v (.int .i64 0), C.v (.int .i64 0), C.v (.int .i64 0)] = List.map coC (List.replicate n default) := by rw [List.map_replicate]; rfl
theorem zr_rnC (n : Nat) : List.replicate n [C.v (.int .i64 0), C.v (.int .i64 0), C.v (.int .i64 0), C.v (.int .i64 0), C.v (.int .i64 0)] = List.map rnC (List.replicate n default) := by rw [List.map_replicate]; rfl
theorem coC_setm (o : List Colr) (n : Nat) (k : Colr) : (List.map coC o).set n (coC k) = List.map coC (o.set n k) := by rw [List.map_set]
theorem rnC_setm (o : List Rn) (n : Nat) (k : Rn) : (List.map rnC o).set n (rnC k) = List.map rnC (o.set n k) := by rw [List.map_set]
def spToCL_A : (List Colr) → List AV
  | l => [.c (.sl false (l.map coC))]
def spToCL_pre : (List Colr) → Prop
  | l => l.length ≤ 1000000000
def spToCL_post : (List Colr) → AV → List Box → Prop
  | l, r, bs => r = .c (.own 0 (l).length false) ∧ bs = [⟨(l).map coC, 4, 44, true, false⟩]
def spToCL : VE.Spec := famSpec spToCL_A d_lco spToCL_pre spToCL_post 0 true
theorem spToCL_q : spToCL.flat = true ∧ spToCL.mt = [] ∧ spToCL.shut = false ∧ spToCL.cost = 0 ∧ (∀ a i, spToCL.pre a i = (i = [] ∧ famPre d_lco spToCL_A spToCL_pre a)) ∧ ∀ a i r b, spToCL.post a i r b = (famPost d_lco spToCL_post a r b) := ⟨rfl, rfl, rfl, rfl, fun _ _ => rfl, fun _ _ _ _ => rfl⟩
def tb47 : Nat → Option VE.Spec := tabOf [(67, wkIn spToC)]
theorem tb47_67 : tb47 67 = some (wkIn spToC) := rfl
theorem tb47_ok : TabOK Try.prog rt0 tb47 := (tabOf_cons (by kernel_rfl) sat_laws_toColor tabOf_nil)
set_option maxHeartbeats 4000000 in
theorem sat_laws_toColorS_0 : Sat Try.prog rt0 47 (wkOut spToCL) := by
  refine fn_sat hm ttok (tab := tb47) tb47_ok Try.func47 (c := Try.f47.body.getD .skip) (by kernel_rfl) (ts := [.tmp 2]) (by kernel_rfl) Try.ntmps47 (sq := fun _ => true) (by kernel_rfl) ?_
  intro args ins pk hpre0 hpk
  obtain ⟨rfl, hpre0⟩ := hpre0
  obtain ⟨l, rfl, hpre, hdec⟩ := famPre_ex hpre0
  clear hpre0 hdec
  try simp only [spToCL_pre] at hpre
  replace hpk : pk + 0 ≤ pickLimit := hpk
  refine ⟨Nat.le_of_ble_eq_true rfl, ?_⟩
  simp (config := { maxSteps := 1000000 }) only [go_sem, ↓ifP_true, ↓ifP_false, ↓ifP_not, Nat.reduceLT, Nat.reduceAdd, Nat.reduceBEq, Nat.reduceSub, Nat.reduceLeDiff, Nat.reduceEqDiff, Nat.reduceMul, Int.reduceToNat, Int.reduceEq, Int.reduceLT, Int.reduceLE, Int.reduceAdd, Int.reduceSub, Int.reduceMul, reduceCtorEq, cond_true, cond_false, forall_eq', forall_eq, forall_const, implies_true, if_true, if_false, exists_eq_left', exists_eq', exists_eq, ne_eq, Try.f47, tb47_67, spToCL_q, spToCL_A, spToCL_pre, spToCL_post, spToC_q, spToC_A, spToC_pre, spToC_post, zr_coC, Int.toNat_natCast, coC_setm]
  repeat' (first | apply And.intro | (intro _) | omega | assumption | with_reducible rfl)
  any_goals
    refine loopS (α := (List Colr) × Int) false [1, 4, 5, 6, 7, 8, 9, 10, 11, 12, 13, 14, 15, 16, 17, 18, 19, 20, 21] (fun σ => [gId (σ.get 3)]) (fun σ x => [(3, .c (.own (gId (σ.get 3)) (x.1).length false)), (4, I x.2)]) (fun σ x => [(gId (σ.get 3), some ⟨(x.1).map coC, 4, 44, true, false⟩)]) (fun (o, i) => 0) (fun σ => (gL coCd σ (σ.get 3), gI (σ.get 4))) (fun σ τ => [(gId (σ.get 3), gId (τ.get 3))]) (fun (o, i) => (0 ≤ i ∧ i ≤ l.length) ∧ o = cpL l default i) (fun (o, i) => (l.length - i).toNat) ⟨by (simp (config := { maxSteps := 1000000 }) only [go_sem, ↓ifP_true, ↓ifP_false, ↓ifP_not, Nat.reduceLT, Nat.reduceAdd, Nat.reduceBEq, Nat.reduceSub, Nat.reduceLeDiff, Nat.reduceEqDiff, Nat.reduceMul, Int.reduceToNat, Int.reduceEq, Int.reduceLT, Int.reduceLE, Int.reduceAdd, Int.reduceSub, Int.reduceMul, reduceCtorEq, cond_true, cond_false, forall_eq', forall_eq, forall_const, implies_true, if_true, if_false, exists_eq_left', exists_eq', exists_eq, ne_eq, Try.f47, tb47_67, spToCL_q, spToCL_A, spToCL_pre, spToCL_post, spToC_q, spToC_A, spToC_pre, spToC_post, zr_coC, Int.toNat_natCast, coC_setm]; (repeat' (first | apply And.intro | (intro _) | omega | assumption | with_reducible rfl)); all_goals (first | rfl | omega | (rw [cpL_0]) | skip)), ?_⟩
    rintro ⟨o, i⟩ hinv
    try dsimp only at hinv
    rcases elemAt l i (by omega) with ⟨hlt, c, hk⟩ | hlt
    all_goals (first | ((have hlt2 := of_eq_true hlt); all_goals simp (config := { maxSteps := 1000000 }) only [go_sem, ↓ifP_true, ↓ifP_false, ↓ifP_not, Nat.reduceLT, Nat.reduceAdd, Nat.reduceBEq, Nat.reduceSub, Nat.reduceLeDiff, Nat.reduceEqDiff, Nat.reduceMul, Int.reduceToNat, Int.reduceEq, Int.reduceLT, Int.reduceLE, Int.reduceAdd, Int.reduceSub, Int.reduceMul, reduceCtorEq, cond_true, cond_false, forall_eq', forall_eq, forall_const, implies_true, if_true, if_false, exists_eq_left', exists_eq', exists_eq, ne_eq, Try.f47, tb47_67, spToCL_q, spToCL_A, spToCL_pre, spToCL_post, spToC_q, spToC_A, spToC_pre, spToC_post, zr_coC, Int.toNat_natCast, coC_setm, hlt, hk]) | (have hlt2 := of_eq_false hlt; simp (config := { maxSteps := 1000000 }) only [go_sem, ↓ifP_true, ↓ifP_false, ↓ifP_not, Nat.reduceLT, Nat.reduceAdd, Nat.reduceBEq, Nat.reduceSub, Nat.reduceLeDiff, Nat.reduceEqDiff, Nat.reduceMul, Int.reduceToNat, Int.reduceEq, Int.reduceLT, Int.reduceLE, Int.reduceAdd, Int.reduceSub, Int.reduceMul, reduceCtorEq, cond_true, cond_false, forall_eq', forall_eq, forall_const, implies_true, if_true, if_false, exists_eq_left', exists_eq', exists_eq, ne_eq, Try.f47, tb47_67, spToCL_q, spToCL_A, spToCL_pre, spToCL_post, spToC_q, spToC_A, spToC_pre, spToC_post, zr_coC, Int.toNat_natCast, coC_setm, hlt]))
    all_goals
      have hol : o.length = l.length := by rw [hinv.2]; exact cpL_len _ _ (by omega)
    all_goals
      repeat' (first | apply And.intro | (intro _) | omega | assumption | with_reducible rfl)
  
  all_goals (first | (omega; done) | (rfl; done) | ((rw [cpL_len _ _ (by omega)]; omega); done) | (exact cpL_set hinv.1.1 ‹_›; done) | ((rw [hinv.2]; exact cpL_set hinv.1.1 hk); done) | ((rw [hinv.2, cpL_end hlt2]); done) | ((rw [cpL_0, List.map_replicate]; rfl); done) | (skip; done))
theorem sat_laws_toColorS : Sat Try.prog rt0 47 (wkIn spToCL) := sat_in (sat_out sat_laws_toColorS_0)
def spToRL_A : (List Rn) → List AV
  | l => [.c (.sl false (l.map rnC))]
def spToRL_pre : (List Rn) → Prop
  | l => l.length ≤ 1000000000
def spToRL_post : (List Rn) → AV → List Box → Prop
  | l, r, bs => r = .c (.own 0 (l).length false) ∧ bs = [⟨(l).map rnC, 5, 46, true, false⟩]
def spToRL : VE.Spec := famSpec spToRL_A d_lrn spToRL_pre spToRL_post 0 true
theorem spToRL_q : spToRL.flat = true ∧ spToRL.mt = [] ∧ spToRL.shut = false ∧ spToRL.cost = 0 ∧ (∀ a i, spToRL.pre a i = (i = [] ∧ famPre d_lrn spToRL_A spToRL_pre a)) ∧ ∀ a i r b, spToRL.post a i r b = (famPost d_lrn spToRL_post a r b) := ⟨rfl, rfl, rfl, rfl, fun _ _ => rfl, fun _ _ _ _ => rfl⟩
def tb35 : Nat → Option VE.Spec := tabOf [(61, wkIn spToR)]
theorem tb35_61 : tb35 61 = some (wkIn spToR) := rfl
theorem tb35_ok : TabOK Try.prog rt0 tb35 := (tabOf_cons (by kernel_rfl) sat_laws_toRun tabOf_nil)
set_option maxHeartbeats 4000000 in
theorem sat_laws_toRunS_0 : Sat Try.prog rt0 35 (wkOut spToRL) := by
  refine fn_sat hm ttok (tab := tb35) tb35_ok Try.func35 (c := Try.f35.body.getD .skip) (by kernel_rfl) (ts := [.tmp 2]) (by kernel_rfl) Try.ntmps35 (sq := fun _ => true) (by kernel_rfl) ?_
  intro args ins pk hpre0 hpk
  obtain ⟨rfl, hpre0⟩ := hpre0
  obtain ⟨l, rfl, hpre, hdec⟩ := famPre_ex hpre0
  clear hpre0 hdec
  try simp only [spToRL_pre] at hpre
  replace hpk : pk + 0 ≤ pickLimit := hpk
  refine ⟨Nat.le_of_ble_eq_true rfl, ?_⟩
  simp (config := { maxSteps := 1000000 }) only [go_sem, ↓ifP_true, ↓ifP_false, ↓ifP_not, Nat.reduceLT, Nat.reduceAdd, Nat.reduceBEq, Nat.reduceSub, Nat.reduceLeDiff, Nat.reduceEqDiff, Nat.reduceMul, Int.reduceToNat, Int.reduceEq, Int.reduceLT, Int.reduceLE, Int.reduceAdd, Int.reduceSub, Int.reduceMul, reduceCtorEq, cond_true, cond_false, forall_eq', forall_eq, forall_const, implies_true, if_true, if_false, exists_eq_left', exists_eq', exists_eq, ne_eq, Try.f35, tb35_61, spToRL_q, spToRL_A, spToRL_pre, spToRL_post, spToR_q, spToR_A, spToR_pre, spToR_post, zr_rnC, Int.toNat_natCast, rnC_setm]
  repeat' (first | apply And.intro | (intro _) | omega | assumption | with_reducible rfl)
  any_goals
    refine loopS (α := (List Rn) × Int) false [1, 4, 5, 6, 7, 8, 9, 10, 11, 12, 13, 14, 15, 16, 17, 18, 19, 20, 21] (fun σ => [gId (σ.get 3)]) (fun σ x => [(3, .c (.own (gId (σ.get 3)) (x.1).length false)), (4, I x.2)]) (fun σ x => [(gId (σ.get 3), some ⟨(x.1).map rnC, 5, 46, true, false⟩)]) (fun (o, i) => 0) (fun σ => (gL rnCd σ (σ.get 3), gI (σ.get 4))) (fun σ τ => [(gId (σ.get 3), gId (τ.get 3))]) (fun (o, i) => (0 ≤ i ∧ i ≤ l.length) ∧ o = cpL l default i) (fun (o, i) => (l.length - i).toNat) ⟨by (simp (config := { maxSteps := 1000000 }) only [go_sem, ↓ifP_true, ↓ifP_false, ↓ifP_not, Nat.reduceLT, Nat.reduceAdd, Nat.reduceBEq, Nat.reduceSub, Nat.reduceLeDiff, Nat.reduceEqDiff, Nat.reduceMul, Int.reduceToNat, Int.reduceEq, Int.reduceLT, Int.reduceLE, Int.reduceAdd, Int.reduceSub, Int.reduceMul, reduceCtorEq, cond_true, cond_false, forall_eq', forall_eq, forall_const, implies_true, if_true, if_false, exists_eq_left', exists_eq', exists_eq, ne_eq, Try.f35, tb35_61, spToRL_q, spToRL_A, spToRL_pre, spToRL_post, spToR_q, spToR_A, spToR_pre, spToR_post, zr_rnC, Int.toNat_natCast, rnC_setm]; (repeat' (first | apply And.intro | (intro _) | omega | assumption | with_reducible rfl)); all_goals (first | rfl | omega | (rw [cpL_0]) | skip)), ?_⟩
    rintro ⟨o, i⟩ hinv
    try dsimp only at hinv
    rcases elemAt l i (by omega) with ⟨hlt, c, hk⟩ | hlt
    all_goals (first | ((have hlt2 := of_eq_true hlt); all_goals simp (config := { maxSteps := 1000000 }) only [go_sem, ↓ifP_true, ↓ifP_false, ↓ifP_not, Nat.reduceLT, Nat.reduceAdd, Nat.reduceBEq, Nat.reduceSub, Nat.reduceLeDiff, Nat.reduceEqDiff, Nat.reduceMul, Int.reduceToNat, Int.reduceEq, Int.reduceLT, Int.reduceLE, Int.reduceAdd, Int.reduceSub, Int.reduceMul, reduceCtorEq, cond_true, cond_false, forall_eq', forall_eq, forall_const, implies_true, if_true, if_false, exists_eq_left', exists_eq', exists_eq, ne_eq, Try.f35, tb35_61, spToRL_q, spToRL_A, spToRL_pre, spToRL_post, spToR_q, spToR_A, spToR_pre, spToR_post, zr_rnC, Int.toNat_natCast, rnC_setm, hlt, hk]) | (have hlt2 := of_eq_false hlt; simp (config := { maxSteps := 1000000 }) only [go_sem, ↓ifP_true, ↓ifP_false, ↓ifP_not, Nat.reduceLT, Nat.reduceAdd, Nat.reduceBEq, Nat.reduceSub, Nat.reduceLeDiff, Nat.reduceEqDiff, Nat.reduceMul, Int.reduceToNat, Int.reduceEq, Int.reduceLT, Int.reduceLE, Int.reduceAdd, Int.reduceSub, Int.reduceMul, reduceCtorEq, cond_true, cond_false, forall_eq', forall_eq, forall_const, implies_true, if_true, if_false, exists_eq_left', exists_eq', exists_eq, ne_eq, Try.f35, tb35_61, spToRL_q, spToRL_A, spToRL_pre, spToRL_post, spToR_q, spToR_A, spToR_pre, spToR_post, zr_rnC, Int.toNat_natCast, rnC_setm, hlt]))
    all_goals
      have hol : o.length = l.length := by rw [hinv.2]; exact cpL_len _ _ (by omega)
    all_goals
      repeat' (first | apply And.intro | (intro _) | omega | assumption | with_reducible rfl)
  
  all_goals (first | (omega; done) | (rfl; done) | ((rw [cpL_len _ _ (by omega)]; omega); done) | (exact cpL_set hinv.1.1 ‹_›; done) | ((rw [hinv.2]; exact cpL_set hinv.1.1 hk); done) | ((rw [hinv.2, cpL_end hlt2]); done) | ((rw [cpL_0, List.map_replicate]; rfl); done) | (skip; done))
theorem sat_laws_toRunS : Sat Try.prog rt0 35 (wkIn spToRL) := sat_in (sat_out sat_laws_toRunS_0)
def spToF_A : Frm → List AV
  | f => [.agg (frC f)]
def spToF_pre : Frm → Prop
  | f => f.px.length ≤ 1000000000
def spToF_post : Frm → AV → List Box → Prop
  | f, r, bs => r = .agg [C.v (.int .i64 f.w), C.v (.int .i64 f.h), C.own 0 f.px.length false] ∧ bs = [⟨f.px.map coC, 4, 44, true, false⟩]
def spToF : VE.Spec := famSpec spToF_A d_fr spToF_pre spToF_post 0 true
theorem spToF_q : spToF.flat = true ∧ spToF.mt = [] ∧ spToF.shut = false ∧ spToF.cost = 0 ∧ (∀ a i, spToF.pre a i = (i = [] ∧ famPre d_fr spToF_A spToF_pre a)) ∧ ∀ a i r b, spToF.post a i r b = (famPost d_fr spToF_post a r b) := ⟨rfl, rfl, rfl, rfl, fun _ _ => rfl, fun _ _ _ _ => rfl⟩
def tb20 : Nat → Option VE.Spec := tabOf [(47, wkIn spToCL)]
theorem tb20_47 : tb20 47 = some (wkIn spToCL) := rfl
theorem tb20_ok : TabOK Try.prog rt0 tb20 := (tabOf_cons (by kernel_rfl) sat_laws_toColorS tabOf_nil)
set_option maxHeartbeats 4000000 in
theorem sat_laws_toFrame_0 : Sat Try.prog rt0 20 (wkOut spToF) := by
  refine fn_sat hm ttok (tab := tb20) tb20_ok Try.func20 (c := Try.f20.body.getD .skip) (by kernel_rfl) (ts := [.cell 2 27]) (by kernel_rfl) Try.ntmps20 (sq := fun _ => true) (by kernel_rfl) ?_
  intro args ins pk hpre0 hpk
  obtain ⟨rfl, hpre0⟩ := hpre0
  obtain ⟨f, rfl, hpre, hdec⟩ := famPre_ex hpre0
  clear hpre0 hdec
  try simp only [spToF_pre] at hpre
  replace hpk : pk + 0 ≤ pickLimit := hpk
  refine ⟨Nat.le_of_ble_eq_true rfl, ?_⟩
  simp (config := { maxSteps := 1000000 }) only [go_sem, ↓ifP_true, ↓ifP_false, ↓ifP_not, Nat.reduceLT, Nat.reduceAdd, Nat.reduceBEq, Nat.reduceSub, Nat.reduceLeDiff, Nat.reduceEqDiff, Nat.reduceMul, Int.reduceToNat, Int.reduceEq, Int.reduceLT, Int.reduceLE, Int.reduceAdd, Int.reduceSub, Int.reduceMul, reduceCtorEq, cond_true, cond_false, forall_eq', forall_eq, forall_const, implies_true, if_true, if_false, exists_eq_left', exists_eq', exists_eq, ne_eq, Try.f20, tb20_47, spToF_q, spToF_A, spToF_pre, spToF_post, spToCL_q, spToCL_A, spToCL_pre, spToCL_post]
  repeat' (first | apply And.intro | (intro _) | omega | assumption | with_reducible rfl)
  all_goals (first | (rfl; done) | (skip; done))
theorem sat_laws_toFrame : Sat Try.prog rt0 20 (wkIn spToF) := sat_in (sat_out sat_laws_toFrame_0)
def spSzC_A : (List Colr) × Int → List AV
  | (l, left) => [.c (.sl false (l.map coC)), I left]
def spSzC_pre : (List Colr) × Int → Prop
  | (l, left) => (0 ≤ left ∧ left ≤ 1048576) ∧ l.length ≤ 9223372036854775807
def spSzC_post : (List Colr) × Int → AV → List Box → Prop
  | (l, left), r, bs => r = I (szL l.length left) ∧ bs = []
def spSzC : VE.Spec := famSpec spSzC_A d_lco_i spSzC_pre spSzC_post 0 true
theorem spSzC_q : spSzC.flat = true ∧ spSzC.mt = [] ∧ spSzC.shut = false ∧ spSzC.cost = 0 ∧ (∀ a i, spSzC.pre a i = (i = [] ∧ famPre d_lco_i spSzC_A spSzC_pre a)) ∧ ∀ a i r b, spSzC.post a i r b = (famPost d_lco_i spSzC_post a r b) := ⟨rfl, rfl, rfl, rfl, fun _ _ => rfl, fun _ _ _ _ => rfl⟩
def tb44 : Nat → Option VE.Spec := tabOf []
theorem tb44_ok : TabOK Try.prog rt0 tb44 := tabOf_nil
set_option maxHeartbeats 4000000 in
theorem sat_laws_szColorS_0 : Sat Try.prog rt0 44 (wkOut spSzC) := by
  refine fn_sat hm ttok (tab := tb44) tb44_ok Try.func44 (c := Try.f44.body.getD .skip) (by kernel_rfl) (ts := [.tmp 4]) (by kernel_rfl) Try.ntmps44 (sq := fun _ => true) (by kernel_rfl) ?_
  intro args ins pk hpre0 hpk
  obtain ⟨rfl, hpre0⟩ := hpre0
  obtain ⟨⟨l, left⟩, rfl, hpre, hdec⟩ := famPre_ex hpre0
  clear hpre0 hdec
  try simp only [spSzC_pre] at hpre
  replace hpk : pk + 0 ≤ pickLimit := hpk
  refine ⟨Nat.le_of_ble_eq_true rfl, ?_⟩
  simp (config := { maxSteps := 1000000 }) only [go_sem, ↓ifP_true, ↓ifP_false, ↓ifP_not, Nat.reduceLT, Nat.reduceAdd, Nat.reduceBEq, Nat.reduceSub, Nat.reduceLeDiff, Nat.reduceEqDiff, Nat.reduceMul, Int.reduceToNat, Int.reduceEq, Int.reduceLT, Int.reduceLE, Int.reduceAdd, Int.reduceSub, Int.reduceMul, reduceCtorEq, cond_true, cond_false, forall_eq', forall_eq, forall_const, implies_true, if_true, if_false, exists_eq_left', exists_eq', exists_eq, ne_eq, Try.f44, spSzC_q, spSzC_A, spSzC_pre, spSzC_post]
  repeat' (first | apply And.intro | (intro _) | omega | assumption | with_reducible rfl)
  all_goals (first | ((rw [szL_n ‹_›]); done) | ((rw [szL_y ‹_›]); done) | (exact (szL_n ‹_›).symm; done) | (exact (szL_y ‹_›).symm; done) | (omega; done))
theorem sat_laws_szColorS : Sat Try.prog rt0 44 (wkIn spSzC) := sat_in (sat_out sat_laws_szColorS_0)
def spSzR_A : (List Rn) × Int → List AV
  | (l, left) => [.c (.sl false (l.map rnC)), I left]
def spSzR_pre : (List Rn) × Int → Prop
  | (l, left) => (0 ≤ left ∧ left ≤ 1048576) ∧ l.length ≤ 9223372036854775807
def spSzR_post : (List Rn) × Int → AV → List Box → Prop
  | (l, left), r, bs => r = I (szL l.length left) ∧ bs = []
def spSzR : VE.Spec := famSpec spSzR_A d_lrn_i spSzR_pre spSzR_post 0 true
theorem spSzR_q : spSzR.flat = true ∧ spSzR.mt = [] ∧ spSzR.shut = false ∧ spSzR.cost = 0 ∧ (∀ a i, spSzR.pre a i = (i = [] ∧ famPre d_lrn_i spSzR_A spSzR_pre a)) ∧ ∀ a i r b, spSzR.post a i r b = (famPost d_lrn_i spSzR_post a r b) := ⟨rfl, rfl, rfl, rfl, fun _ _ => rfl, fun _ _ _ _ => rfl⟩
def tb34 : Nat → Option VE.Spec := tabOf []
theorem tb34_ok : TabOK Try.prog rt0 tb34 := tabOf_nil
set_option maxHeartbeats 4000000 in
theorem sat_laws_szRunS_0 : Sat Try.prog rt0 34 (wkOut spSzR) := by
  refine fn_sat hm ttok (tab := tb34) tb34_ok Try.func34 (c := Try.f34.body.getD .skip) (by kernel_rfl) (ts := [.tmp 4]) (by kernel_rfl) Try.ntmps34 (sq := fun _ => true) (by kernel_rfl) ?_
  intro args ins pk hpre0 hpk
  obtain ⟨rfl, hpre0⟩ := hpre0
  obtain ⟨⟨l, left⟩, rfl, hpre, hdec⟩ := famPre_ex hpre0
  clear hpre0 hdec
  try simp only [spSzR_pre] at hpre
  replace hpk : pk + 0 ≤ pickLimit := hpk
  refine ⟨Nat.le_of_ble_eq_true rfl, ?_⟩
  simp (config := { maxSteps := 1000000 }) only [go_sem, ↓ifP_true, ↓ifP_false, ↓ifP_not, Nat.reduceLT, Nat.reduceAdd, Nat.reduceBEq, Nat.reduceSub, Nat.reduceLeDiff, Nat.reduceEqDiff, Nat.reduceMul, Int.reduceToNat, Int.reduceEq, Int.reduceLT, Int.reduceLE, Int.reduceAdd, Int.reduceSub, Int.reduceMul, reduceCtorEq, cond_true, cond_false, forall_eq', forall_eq, forall_const, implies_true, if_true, if_false, exists_eq_left', exists_eq', exists_eq, ne_eq, Try.f34, spSzR_q, spSzR_A, spSzR_pre, spSzR_post]
  repeat' (first | apply And.intro | (intro _) | omega | assumption | with_reducible rfl)
  all_goals (first | ((rw [szL_n ‹_›]); done) | ((rw [szL_y ‹_›]); done) | (exact (szL_n ‹_›).symm; done) | (exact (szL_y ‹_›).symm; done) | (omega; done))
theorem sat_laws_szRunS : Sat Try.prog rt0 34 (wkIn spSzR) := sat_in (sat_out sat_laws_szRunS_0)
def spSzF_A : Frm × Int → List AV
  | (f, left) => [.agg (frC f), I left]
def spSzF_pre : Frm × Int → Prop
  | (f, left) => (0 ≤ left ∧ left ≤ 1048576) ∧ f.px.length ≤ 9223372036854775807
def spSzF_post : Frm × Int → AV → List Box → Prop
  | (f, left), r, bs => r = I (szL f.px.length left) ∧ bs = []
def spSzF : VE.Spec := famSpec spSzF_A d_fr_i spSzF_pre spSzF_post 0 true
theorem spSzF_q : spSzF.flat = true ∧ spSzF.mt = [] ∧ spSzF.shut = false ∧ spSzF.cost = 0 ∧ (∀ a i, spSzF.pre a i = (i = [] ∧ famPre d_fr_i spSzF_A spSzF_pre a)) ∧ ∀ a i r b, spSzF.post a i r b = (famPost d_fr_i spSzF_post a r b) := ⟨rfl, rfl, rfl, rfl, fun _ _ => rfl, fun _ _ _ _ => rfl⟩
def tb18 : Nat → Option VE.Spec := tabOf [(44, wkIn spSzC)]
theorem tb18_44 : tb18 44 = some (wkIn spSzC) := rfl
theorem tb18_ok : TabOK Try.prog rt0 tb18 := (tabOf_cons (by kernel_rfl) sat_laws_szColorS tabOf_nil)
set_option maxHeartbeats 4000000 in
theorem sat_laws_szFrame_0 : Sat Try.prog rt0 18 (wkOut spSzF) := by
  refine fn_sat hm ttok (tab := tb18) tb18_ok Try.func18 (c := Try.f18.body.getD .skip) (by kernel_rfl) (ts := [.tmp 4]) (by kernel_rfl) Try.ntmps18 (sq := fun _ => true) (by kernel_rfl) ?_
  intro args ins pk hpre0 hpk
  obtain ⟨rfl, hpre0⟩ := hpre0
  obtain ⟨⟨f, left⟩, rfl, hpre, hdec⟩ := famPre_ex hpre0
  clear hpre0 hdec
  try simp only [spSzF_pre] at hpre
  replace hpk : pk + 0 ≤ pickLimit := hpk
  refine ⟨Nat.le_of_ble_eq_true rfl, ?_⟩
  simp (config := { maxSteps := 1000000 }) only [go_sem, ↓ifP_true, ↓ifP_false, ↓ifP_not, Nat.reduceLT, Nat.reduceAdd, Nat.reduceBEq, Nat.reduceSub, Nat.reduceLeDiff, Nat.reduceEqDiff, Nat.reduceMul, Int.reduceToNat, Int.reduceEq, Int.reduceLT, Int.reduceLE, Int.reduceAdd, Int.reduceSub, Int.reduceMul, reduceCtorEq, cond_true, cond_false, forall_eq', forall_eq, forall_const, implies_true, if_true, if_false, exists_eq_left', exists_eq', exists_eq, ne_eq, Try.f18, tb18_44, spSzF_q, spSzF_A, spSzF_pre, spSzF_post, spSzC_q, spSzC_A, spSzC_pre, spSzC_post]
  repeat' (first | apply And.intro | (intro _) | omega | assumption | with_reducible rfl)
  all_goals (first | ((have h9 := (szL_bd f.px.length hpre.1); omega); done) | (omega; done))
theorem sat_laws_szFrame : Sat Try.prog rt0 18 (wkIn spSzF) := sat_in (sat_out sat_laws_szFrame_0)
def spEqCo_A : Colr × Colr → List AV
  | (a, b) => [.agg (coC a), .agg (coC b)]
def spEqCo_pre : Colr × Colr → Prop
  | (a, b) => True
def spEqCo_post : Colr × Colr → AV → List Box → Prop
  | (a, b), r, bs => r = B (decide (a = b)) ∧ bs = []
def spEqCo : VE.Spec := famSpec spEqCo_A d_co_co spEqCo_pre spEqCo_post 0 true
theorem spEqCo_q : spEqCo.flat = true ∧ spEqCo.mt = [] ∧ spEqCo.shut = false ∧ spEqCo.cost = 0 ∧ (∀ a i, spEqCo.pre a i = (i = [] ∧ famPre d_co_co spEqCo_A spEqCo_pre a)) ∧ ∀ a i r b, spEqCo.post a i r b = (famPost d_co_co spEqCo_post a r b) := ⟨rfl, rfl, rfl, rfl, fun _ _ => rfl, fun _ _ _ _ => rfl⟩
def tb68 : Nat → Option VE.Spec := tabOf []
theorem tb68_ok : TabOK Try.prog rt0 tb68 := tabOf_nil
set_option maxHeartbeats 4000000 in
theorem sat_laws_eqColor_0 : Sat Try.prog rt0 68 (wkOut spEqCo) := by
  refine fn_sat hm ttok (tab := tb68) tb68_ok Try.func68 (c := Try.f68.body.getD .skip) (by kernel_rfl) (ts := [.tmp 4]) (by kernel_rfl) Try.ntmps68 (sq := fun _ => true) (by kernel_rfl) ?_
  intro args ins pk hpre0 hpk
  obtain ⟨rfl, hpre0⟩ := hpre0
  obtain ⟨⟨a, b⟩, rfl, hpre, hdec⟩ := famPre_ex hpre0
  clear hpre0 hdec
  try simp only [spEqCo_pre] at hpre
  replace hpk : pk + 0 ≤ pickLimit := hpk
  refine ⟨Nat.le_of_ble_eq_true rfl, ?_⟩
  simp (config := { maxSteps := 1000000 }) only [go_sem, ↓ifP_true, ↓ifP_false, ↓ifP_not, Nat.reduceLT, Nat.reduceAdd, Nat.reduceBEq, Nat.reduceSub, Nat.reduceLeDiff, Nat.reduceEqDiff, Nat.reduceMul, Int.reduceToNat, Int.reduceEq, Int.reduceLT, Int.reduceLE, Int.reduceAdd, Int.reduceSub, Int.reduceMul, reduceCtorEq, cond_true, cond_false, forall_eq', forall_eq, forall_const, implies_true, if_true, if_false, exists_eq_left', exists_eq', exists_eq, ne_eq, Try.f68, spEqCo_q, spEqCo_A, spEqCo_pre, spEqCo_post]
  repeat' (first | apply And.intro | (intro _) | omega | assumption | with_reducible rfl)
  all_goals (first | ((rw [eq_comm, decide_eq_true_iff, co_neq]; simp_all); done) | ((rw [eq_comm, decide_eq_false_iff_not, co_neq]; simp_all); done) | (simp_all [co_neq]; done) | (omega; done) | (skip; done))
theorem sat_laws_eqColor : Sat Try.prog rt0 68 (wkIn spEqCo) := sat_in (sat_out sat_laws_eqColor_0)
def spEqRn_A : Rn × Rn → List AV
  | (a, b) => [.agg (rnC a), .agg (rnC b)]
def spEqRn_pre : Rn × Rn → Prop
  | (a, b) => True
def spEqRn_post : Rn × Rn → AV → List Box → Prop
  | (a, b), r, bs => r = B (decide (a = b)) ∧ bs = []
def spEqRn : VE.Spec := famSpec spEqRn_A d_rn_rn spEqRn_pre spEqRn_post 0 true
theorem spEqRn_q : spEqRn.flat = true ∧ spEqRn.mt = [] ∧ spEqRn.shut = false ∧ spEqRn.cost = 0 ∧ (∀ a i, spEqRn.pre a i = (i = [] ∧ famPre d_rn_rn spEqRn_A spEqRn_pre a)) ∧ ∀ a i r b, spEqRn.post a i r b = (famPost d_rn_rn spEqRn_post a r b) := ⟨rfl, rfl, rfl, rfl, fun _ _ => rfl, fun _ _ _ _ => rfl⟩
def tb51 : Nat → Option VE.Spec := tabOf [(68, wkIn spEqCo)]
theorem tb51_68 : tb51 68 = some (wkIn spEqCo) := rfl
theorem tb51_ok : TabOK Try.prog rt0 tb51 := (tabOf_cons (by kernel_rfl) sat_laws_eqColor tabOf_nil)
set_option maxHeartbeats 4000000 in
theorem sat_laws_eqRun_0 : Sat Try.prog rt0 51 (wkOut spEqRn) := by
  refine fn_sat hm ttok (tab := tb51) tb51_ok Try.func51 (c := Try.f51.body.getD .skip) (by kernel_rfl) (ts := [.tmp 4]) (by kernel_rfl) Try.ntmps51 (sq := fun _ => true) (by kernel_rfl) ?_
  intro args ins pk hpre0 hpk
  obtain ⟨rfl, hpre0⟩ := hpre0
  obtain ⟨⟨a, b⟩, rfl, hpre, hdec⟩ := famPre_ex hpre0
  clear hpre0 hdec
  try simp only [spEqRn_pre] at hpre
  replace hpk : pk + 0 ≤ pickLimit := hpk
  refine ⟨Nat.le_of_ble_eq_true rfl, ?_⟩
  simp (config := { maxSteps := 1000000 }) only [go_sem, ↓ifP_true, ↓ifP_false, ↓ifP_not, Nat.reduceLT, Nat.reduceAdd, Nat.reduceBEq, Nat.reduceSub, Nat.reduceLeDiff, Nat.reduceEqDiff, Nat.reduceMul, Int.reduceToNat, Int.reduceEq, Int.reduceLT, Int.reduceLE, Int.reduceAdd, Int.reduceSub, Int.reduceMul, reduceCtorEq, cond_true, cond_false, forall_eq', forall_eq, forall_const, implies_true, if_true, if_false, exists_eq_left', exists_eq', exists_eq, ne_eq, Try.f51, tb51_68, spEqRn_q, spEqRn_A, spEqRn_pre, spEqRn_post, spEqCo_q, spEqCo_A, spEqCo_pre, spEqCo_post]
  repeat' (first | apply And.intro | (intro _) | omega | assumption | with_reducible rfl)
  all_goals (first | ((rw [eq_comm, decide_eq_true_iff, rn_neq]; simp_all); done) | ((rw [eq_comm, decide_eq_false_iff_not, rn_neq]; simp_all); done) | (simp_all [rn_neq]; done) | (omega; done) | (skip; done))
theorem sat_laws_eqRun : Sat Try.prog rt0 51 (wkIn spEqRn) := sat_in (sat_out sat_laws_eqRun_0)
def spEqCs_A : (List Colr) × (List Colr) → List AV
  | (a, b) => [.c (.sl false (a.map coC)), .c (.sl false (b.map coC))]
def spEqCs_pre : (List Colr) × (List Colr) → Prop
  | (a, b) => a.length ≤ 1000000000 ∧ b.length ≤ 1000000000
def spEqCs_post : (List Colr) × (List Colr) → AV → List Box → Prop
  | (a, b), r, bs => r = B (decide (a = b)) ∧ bs = []
def spEqCs : VE.Spec := famSpec spEqCs_A d_lco_lco spEqCs_pre spEqCs_post 0 true
theorem spEqCs_q : spEqCs.flat = true ∧ spEqCs.mt = [] ∧ spEqCs.shut = false ∧ spEqCs.cost = 0 ∧ (∀ a i, spEqCs.pre a i = (i = [] ∧ famPre d_lco_lco spEqCs_A spEqCs_pre a)) ∧ ∀ a i r b, spEqCs.post a i r b = (famPost d_lco_lco spEqCs_post a r b) := ⟨rfl, rfl, rfl, rfl, fun _ _ => rfl, fun _ _ _ _ => rfl⟩
def tb48 : Nat → Option VE.Spec := tabOf [(68, wkIn spEqCo)]
theorem tb48_68 : tb48 68 = some (wkIn spEqCo) := rfl
theorem tb48_ok : TabOK Try.prog rt0 tb48 := (tabOf_cons (by kernel_rfl) sat_laws_eqColor tabOf_nil)
set_option maxHeartbeats 4000000 in
theorem sat_laws_eqColorS_0 : Sat Try.prog rt0 48 (wkOut spEqCs) := by
  refine fn_sat hm ttok (tab := tb48) tb48_ok Try.func48 (c := Try.f48.body.getD .skip) (by kernel_rfl) (ts := [.tmp 4]) (by kernel_rfl) Try.ntmps48 (sq := fun _ => true) (by kernel_rfl) ?_
  intro args ins pk hpre0 hpk
  obtain ⟨rfl, hpre0⟩ := hpre0
  obtain ⟨⟨a, b⟩, rfl, hpre, hdec⟩ := famPre_ex hpre0
  clear hpre0 hdec
  try simp only [spEqCs_pre] at hpre
  replace hpk : pk + 0 ≤ pickLimit := hpk
  refine ⟨Nat.le_of_ble_eq_true rfl, ?_⟩
  simp (config := { maxSteps := 1000000 }) only [go_sem, ↓ifP_true, ↓ifP_false, ↓ifP_not, Nat.reduceLT, Nat.reduceAdd, Nat.reduceBEq, Nat.reduceSub, Nat.reduceLeDiff, Nat.reduceEqDiff, Nat.reduceMul, Int.reduceToNat, Int.reduceEq, Int.reduceLT, Int.reduceLE, Int.reduceAdd, Int.reduceSub, Int.reduceMul, reduceCtorEq, cond_true, cond_false, forall_eq', forall_eq, forall_const, implies_true, if_true, if_false, exists_eq_left', exists_eq', exists_eq, ne_eq, Try.f48, tb48_68, spEqCs_q, spEqCs_A, spEqCs_pre, spEqCs_post, spEqCo_q, spEqCo_A, spEqCo_pre, spEqCo_post]
  repeat' (first | apply And.intro | (intro _) | omega | assumption | with_reducible rfl)
  any_goals
    refine loopS (α := Int) false [2, 3, 4, 5, 6, 7, 8, 9, 10, 11, 12, 13, 14, 15, 16, 17, 18, 19, 20, 21, 22, 23, 24, 25, 26] (fun σ => []) (fun σ x => [(5, I x)]) (fun σ x => []) (fun i => 0) (fun σ => gI (σ.get 5)) (fun σ τ => []) (fun i => 0 ≤ i ∧ i ≤ a.length ∧ a.take i.toNat = b.take i.toNat) (fun i => (a.length - i).toNat) ⟨by (simp (config := { maxSteps := 1000000 }) only [go_sem, ↓ifP_true, ↓ifP_false, ↓ifP_not, Nat.reduceLT, Nat.reduceAdd, Nat.reduceBEq, Nat.reduceSub, Nat.reduceLeDiff, Nat.reduceEqDiff, Nat.reduceMul, Int.reduceToNat, Int.reduceEq, Int.reduceLT, Int.reduceLE, Int.reduceAdd, Int.reduceSub, Int.reduceMul, reduceCtorEq, cond_true, cond_false, forall_eq', forall_eq, forall_const, implies_true, if_true, if_false, exists_eq_left', exists_eq', exists_eq, ne_eq, Try.f48, tb48_68, spEqCs_q, spEqCs_A, spEqCs_pre, spEqCs_post, spEqCo_q, spEqCo_A, spEqCo_pre, spEqCo_post]; (repeat' (first | apply And.intro | (intro _) | omega | assumption | with_reducible rfl)); all_goals (first | rfl)), ?_⟩
    rintro i hinv
    try dsimp only at hinv
    simp (config := { maxSteps := 1000000 }) only [go_sem, ↓ifP_true, ↓ifP_false, ↓ifP_not, Nat.reduceLT, Nat.reduceAdd, Nat.reduceBEq, Nat.reduceSub, Nat.reduceLeDiff, Nat.reduceEqDiff, Nat.reduceMul, Int.reduceToNat, Int.reduceEq, Int.reduceLT, Int.reduceLE, Int.reduceAdd, Int.reduceSub, Int.reduceMul, reduceCtorEq, cond_true, cond_false, forall_eq', forall_eq, forall_const, implies_true, if_true, if_false, exists_eq_left', exists_eq', exists_eq, ne_eq, Try.f48, tb48_68, spEqCs_q, spEqCs_A, spEqCs_pre, spEqCs_post, spEqCo_q, spEqCo_A, spEqCo_pre, spEqCo_post]
    repeat' (first | apply And.intro | (intro _) | omega | assumption | with_reducible rfl)
  
  all_goals (first | (exact eqL_step ‹_› ‹_› ‹_› hinv.1 hinv.2.2; done) | (exact (decide_eq_false (eqL_no ‹_› ‹_› ‹_›)).symm; done) | (exact (decide_eq_true (eqL_end ‹_› ‹_› hinv.2.2)).symm; done) | (exact (decide_eq_false (eqL_len ‹_›)).symm; done))
theorem sat_laws_eqColorS : Sat Try.prog rt0 48 (wkIn spEqCs) := sat_in (sat_out sat_laws_eqColorS_0)
def spEqRs2_A : (List Rn) × (List Rn) → List AV
  | (a, b) => [.c (.sl false (a.map rnC)), .c (.sl false (b.map rnC))]
def spEqRs2_pre : (List Rn) × (List Rn) → Prop
  | (a, b) => a.length ≤ 1000000000 ∧ b.length ≤ 1000000000
def spEqRs2_post : (List Rn) × (List Rn) → AV → List Box → Prop
  | (a, b), r, bs => r = B (decide (a = b)) ∧ bs = []
def spEqRs2 : VE.Spec := famSpec spEqRs2_A d_lrn_lrn spEqRs2_pre spEqRs2_post 0 true
theorem spEqRs2_q : spEqRs2.flat = true ∧ spEqRs2.mt = [] ∧ spEqRs2.shut = false ∧ spEqRs2.cost = 0 ∧ (∀ a i, spEqRs2.pre a i = (i = [] ∧ famPre d_lrn_lrn spEqRs2_A spEqRs2_pre a)) ∧ ∀ a i r b, spEqRs2.post a i r b = (famPost d_lrn_lrn spEqRs2_post a r b) := ⟨rfl, rfl, rfl, rfl, fun _ _ => rfl, fun _ _ _ _ => rfl⟩
def tb27 : Nat → Option VE.Spec := tabOf [(51, wkIn spEqRn)]
theorem tb27_51 : tb27 51 = some (wkIn spEqRn) := rfl
theorem tb27_ok : TabOK Try.prog rt0 tb27 := (tabOf_cons (by kernel_rfl) sat_laws_eqRun tabOf_nil)
set_option maxHeartbeats 4000000 in
theorem sat_laws_eqRunS_0 : Sat Try.prog rt0 27 (wkOut spEqRs2) := by
  refine fn_sat hm ttok (tab := tb27) tb27_ok Try.func27 (c := Try.f27.body.getD .skip) (by kernel_rfl) (ts := [.tmp 4]) (by kernel_rfl) Try.ntmps27 (sq := fun _ => true) (by kernel_rfl) ?_
  intro args ins pk hpre0 hpk
  obtain ⟨rfl, hpre0⟩ := hpre0
  obtain ⟨⟨a, b⟩, rfl, hpre, hdec⟩ := famPre_ex hpre0
  clear hpre0 hdec
  try simp only [spEqRs2_pre] at hpre
  replace hpk : pk + 0 ≤ pickLimit := hpk
  refine ⟨Nat.le_of_ble_eq_true rfl, ?_⟩
  simp (config := { maxSteps := 1000000 }) only [go_sem, ↓ifP_true, ↓ifP_false, ↓ifP_not, Nat.reduceLT, Nat.reduceAdd, Nat.reduceBEq, Nat.reduceSub, Nat.reduceLeDiff, Nat.reduceEqDiff, Nat.reduceMul, Int.reduceToNat, Int.reduceEq, Int.reduceLT, Int.reduceLE, Int.reduceAdd, Int.reduceSub, Int.reduceMul, reduceCtorEq, cond_true, cond_false, forall_eq', forall_eq, forall_const, implies_true, if_true, if_false, exists_eq_left', exists_eq', exists_eq, ne_eq, Try.f27, tb27_51, spEqRs2_q, spEqRs2_A, spEqRs2_pre, spEqRs2_post, spEqRn_q, spEqRn_A, spEqRn_pre, spEqRn_post]
  repeat' (first | apply And.intro | (intro _) | omega | assumption | with_reducible rfl)
  any_goals
    refine loopS (α := Int) false [2, 3, 4, 5, 6, 7, 8, 9, 10, 11, 12, 13, 14, 15, 16, 17, 18, 19, 20, 21, 22, 23, 24, 25, 26] (fun σ => []) (fun σ x => [(5, I x)]) (fun σ x => []) (fun i => 0) (fun σ => gI (σ.get 5)) (fun σ τ => []) (fun i => 0 ≤ i ∧ i ≤ a.length ∧ a.take i.toNat = b.take i.toNat) (fun i => (a.length - i).toNat) ⟨by (simp (config := { maxSteps := 1000000 }) only [go_sem, ↓ifP_true, ↓ifP_false, ↓ifP_not, Nat.reduceLT, Nat.reduceAdd, Nat.reduceBEq, Nat.reduceSub, Nat.reduceLeDiff, Nat.reduceEqDiff, Nat.reduceMul, Int.reduceToNat, Int.reduceEq, Int.reduceLT, Int.reduceLE, Int.reduceAdd, Int.reduceSub, Int.reduceMul, reduceCtorEq, cond_true, cond_false, forall_eq', forall_eq, forall_const, implies_true, if_true, if_false, exists_eq_left', exists_eq', exists_eq, ne_eq, Try.f27, tb27_51, spEqRs2_q, spEqRs2_A, spEqRs2_pre, spEqRs2_post, spEqRn_q, spEqRn_A, spEqRn_pre, spEqRn_post]; (repeat' (first | apply And.intro | (intro _) | omega | assumption | with_reducible rfl)); all_goals (first | rfl)), ?_⟩
    rintro i hinv
    try dsimp only at hinv
    simp (config := { maxSteps := 1000000 }) only [go_sem, ↓ifP_true, ↓ifP_false, ↓ifP_not, Nat.reduceLT, Nat.reduceAdd, Nat.reduceBEq, Nat.reduceSub, Nat.reduceLeDiff, Nat.reduceEqDiff, Nat.reduceMul, Int.reduceToNat, Int.reduceEq, Int.reduceLT, Int.reduceLE, Int.reduceAdd, Int.reduceSub, Int.reduceMul, reduceCtorEq, cond_true, cond_false, forall_eq', forall_eq, forall_const, implies_true, if_true, if_false, exists_eq_left', exists_eq', exists_eq, ne_eq, Try.f27, tb27_51, spEqRs2_q, spEqRs2_A, spEqRs2_pre, spEqRs2_post, spEqRn_q, spEqRn_A, spEqRn_pre, spEqRn_post]
    repeat' (first | apply And.intro | (intro _) | omega | assumption | with_reducible rfl)
  
  all_goals (first | (exact eqL_step ‹_› ‹_› ‹_› hinv.1 hinv.2.2; done) | (exact (decide_eq_false (eqL_no ‹_› ‹_› ‹_›)).symm; done) | (exact (decide_eq_true (eqL_end ‹_› ‹_› hinv.2.2)).symm; done) | (exact (decide_eq_false (eqL_len ‹_›)).symm; done))
theorem sat_laws_eqRunS : Sat Try.prog rt0 27 (wkIn spEqRs2) := sat_in (sat_out sat_laws_eqRunS_0)
def spEqFr_A : Frm × Frm → List AV
  | (a, b) => [.agg (frC a), .agg (frC b)]
def spEqFr_pre : Frm × Frm → Prop
  | (a, b) => a.px.length ≤ 1000000000 ∧ b.px.length ≤ 1000000000
def spEqFr_post : Frm × Frm → AV → List Box → Prop
  | (a, b), r, bs => r = B (decide (a = b)) ∧ bs = []
def spEqFr : VE.Spec := famSpec spEqFr_A d_fr_fr spEqFr_pre spEqFr_post 0 true
theorem spEqFr_q : spEqFr.flat = true ∧ spEqFr.mt = [] ∧ spEqFr.shut = false ∧ spEqFr.cost = 0 ∧ (∀ a i, spEqFr.pre a i = (i = [] ∧ famPre d_fr_fr spEqFr_A spEqFr_pre a)) ∧ ∀ a i r b, spEqFr.post a i r b = (famPost d_fr_fr spEqFr_post a r b) := ⟨rfl, rfl, rfl, rfl, fun _ _ => rfl, fun _ _ _ _ => rfl⟩
def tb21 : Nat → Option VE.Spec := tabOf [(48, wkIn spEqCs)]
theorem tb21_48 : tb21 48 = some (wkIn spEqCs) := rfl
theorem tb21_ok : TabOK Try.prog rt0 tb21 := (tabOf_cons (by kernel_rfl) sat_laws_eqColorS tabOf_nil)
set_option maxHeartbeats 4000000 in
theorem sat_laws_eqFrame_0 : Sat Try.prog rt0 21 (wkOut spEqFr) := by
  refine fn_sat hm ttok (tab := tb21) tb21_ok Try.func21 (c := Try.f21.body.getD .skip) (by kernel_rfl) (ts := [.tmp 4]) (by kernel_rfl) Try.ntmps21 (sq := fun _ => true) (by kernel_rfl) ?_
  intro args ins pk hpre0 hpk
  obtain ⟨rfl, hpre0⟩ := hpre0
  obtain ⟨⟨a, b⟩, rfl, hpre, hdec⟩ := famPre_ex hpre0
  clear hpre0 hdec
  try simp only [spEqFr_pre] at hpre
  replace hpk : pk + 0 ≤ pickLimit := hpk
  refine ⟨Nat.le_of_ble_eq_true rfl, ?_⟩
  simp (config := { maxSteps := 1000000 }) only [go_sem, ↓ifP_true, ↓ifP_false, ↓ifP_not, Nat.reduceLT, Nat.reduceAdd, Nat.reduceBEq, Nat.reduceSub, Nat.reduceLeDiff, Nat.reduceEqDiff, Nat.reduceMul, Int.reduceToNat, Int.reduceEq, Int.reduceLT, Int.reduceLE, Int.reduceAdd, Int.reduceSub, Int.reduceMul, reduceCtorEq, cond_true, cond_false, forall_eq', forall_eq, forall_const, implies_true, if_true, if_false, exists_eq_left', exists_eq', exists_eq, ne_eq, Try.f21, tb21_48, spEqFr_q, spEqFr_A, spEqFr_pre, spEqFr_post, spEqCs_q, spEqCs_A, spEqCs_pre, spEqCs_post]
  repeat' (first | apply And.intro | (intro _) | omega | assumption | with_reducible rfl)
  all_goals (first | ((rw [eq_comm, decide_eq_true_iff, fr_neq]; simp_all); done) | ((rw [eq_comm, decide_eq_false_iff_not, fr_neq]; simp_all); done) | (simp_all [fr_neq]; done) | (omega; done) | (skip; done))
theorem sat_laws_eqFrame : Sat Try.prog rt0 21 (wkIn spEqFr) := sat_in (sat_out sat_laws_eqFrame_0)
end Go.Proofs.Ytofelomoieamoaa
