/- Contracts of functions of the program vectorraster, each proved for all states that fit its description. No conditions. -/
import Derived.Test.YthphndhiacikaaaDoorPL
import Derived.Test.YthphndhiacikaaaDoorT2KW
set_option maxRecDepth 100000
set_option linter.unusedSimpArgs false
set_option linter.unusedVariables false
namespace Go.Proofs.YthphndhiacikaaaDoor
open Go Go.VE
theorem eqL_step {α : Type} {a b : List α} {i : Int} {x y : α} (ha : a[i.toNat]? = some x) (hb : b[i.toNat]? = some y) (e : x = y) (h0 : 0 ≤ i) (h : a.take i.toNat = b.take i.toNat) : a.take (i + 1).toNat = b.take (i + 1).toNat := by
  subst e; rw [takeN ha h0, takeN hb h0, h]
theorem eqL_no {α : Type} {a b : List α} {i : Int} {x y : α} (ha : a[i.toNat]? = some x) (hb : b[i.toNat]? = some y) (h : x ≠ y) : a ≠ b := fun e => by
  rw [e, hb] at ha; exact h (Option.some.inj ha).symm
theorem eqL_end {α : Type} {a b : List α} {i : Int} (hl : (a.length : Int) = b.length) (hi : ¬ i < (a.length : Int)) (h : a.take i.toNat = b.take i.toNat) : a = b := by
  rwa [takeA (by omega), takeA (by omega)] at h
theorem eqL_len {α : Type} {a b : List α} (hl : ¬ (a.length : Int) = b.length) : a ≠ b := fun e => hl (by rw [e])
def cpL {α : Type} (l : List α) (z : α) (i : Int) : List α := l.take i.toNat ++ List.replicate (l.length - i.toNat) z
theorem cpL_len {α : Type} (l : List α) (z : α) {i : Int} (h : i ≤ (l.length : Int)) : (cpL l z i).length = l.length := by
  unfold cpL; rw [List.length_append, List.length_take, List.length_replicate]; omega
theorem cpL_set {α : Type} {l : List α} {z x : α} {i : Int} (h0 : 0 ≤ i) (h : l[i.toNat]? = some x) : (cpL l z i).set i.toNat x = cpL l z (i + 1) := by
  have hl := (List.getElem?_eq_some_iff.1 h).1
  refine List.ext_getElem? fun j => ?_
  unfold cpL
  rw [show (i + 1).toNat = i.toNat + 1 by omega]
  rw [List.getElem?_set, List.length_append, List.length_take, List.length_replicate]
  by_cases hj : i.toNat = j
  · subst hj
    rw [if_pos rfl, if_pos (by omega), List.getElem?_append_left (by rw [List.length_take]; omega), List.getElem?_take, if_pos (by omega), h]
  · rw [if_neg hj]
    by_cases hlt : j < i.toNat
    · rw [List.getElem?_append_left (by rw [List.length_take]; omega), List.getElem?_append_left (by rw [List.length_take]; omega), List.getElem?_take, List.getElem?_take, if_pos hlt, if_pos (by omega)]
    · rw [List.getElem?_append_right (by rw [List.length_take]; omega), List.getElem?_append_right (by rw [List.length_take]; omega), List.length_take, List.length_take, List.getElem?_replicate, List.getElem?_replicate]
      by_cases hb : j < l.length
      · rw [if_pos (by omega), if_pos (by omega)]
      · rw [if_neg (by omega), if_neg (by omega)]
theorem cpL_end {α : Type} {l : List α} {z : α} {i : Int} (h : ¬ i < (l.length : Int)) : cpL l z i = l := by
  unfold cpL
  rw [show l.length - i.toNat = 0 by omega, List.replicate_zero, List.append_nil, List.take_of_length_le (by omega)]
theorem cpL_0 {α : Type} (l : List α) (z : α) : cpL l z 0 = List.replicate l.length z := by
  unfold cpL; simp
def szL (n : Nat) (left : Int) : Int := if left - n < 0 then -1 else left - n
theorem szL_n {n : Nat} {left : Int} (h : left - n < 0) : szL n left = -1 := if_pos h
theorem szL_y {n : Nat} {left : Int} (h : ¬ left - n < 0) : szL n left = left - n := if_neg h
theorem szL_bd (n : Nat) {left : Int} (h : 0 ≤ left ∧ left ≤ 1048576) : -1 ≤ szL n left ∧ szL n left ≤ 1048576 ∧ (0 ≤ szL n left → (n : Int) ≤ left) := by
  unfold szL; split <;> omega
theorem zr_ptC (n : Nat) : List.replicate n [C.v (.int .i64 0), C.v (.int .i64 0)] = List.map ptC (List.replicate n default) := by rw [List.map_replicate]; rfl
theorem ptC_setm (o : List Pt) (n : Nat) (k : Pt) : (List.map ptC o).set n (ptC k) = List.map ptC (o.set n k) := by rw [List.map_set]
theorem pt_neq {a b : Pt} : (a = b) ↔ (a.x = b.x ∧ a.y = b.y) := by
  cases a; cases b; simp
theorem vb_neq {a b : Verb} : (a = b) ↔ (a.k = b.k ∧ a.ps = b.ps) := by
  cases a; cases b; simp
def spToPt_A : Pt → List AV
  | c => [.agg (ptC c)]
def spToPt_pre : Pt → Prop
  | c => True
def spToPt_post : Pt → AV → List Box → Prop
  | c, r, bs => r = .agg (ptC (c)) ∧ bs = []
def spToPt : VE.Spec := famSpec spToPt_A d_pt spToPt_pre spToPt_post 0 true
theorem spToPt_q : spToPt.flat = true ∧ spToPt.mt = [] ∧ spToPt.shut = false ∧ spToPt.cost = 0 ∧ (∀ a i, spToPt.pre a i = (i = [] ∧ famPre d_pt spToPt_A spToPt_pre a)) ∧ ∀ a i r b, spToPt.post a i r b = (famPost d_pt spToPt_post a r b) := ⟨rfl, rfl, rfl, rfl, fun _ _ => rfl, fun _ _ _ _ => rfl⟩
def tb67 : Nat → Option VE.Spec := tabOf []
theorem tb67_ok : TabOK Tryd.prog rt0 tb67 := tabOf_nil
set_option maxHeartbeats 4000000 in
theorem sat_laws_toPoint_0 : Sat Tryd.prog rt0 67 (wkOut spToPt) := by
  refine fn_sat hm ttok (tab := tb67) tb67_ok Tryd.func67 (c := Tryd.f67.body.getD .skip) (by kernel_rfl) (ts := [.cell 2 47]) (by kernel_rfl) Tryd.ntmps67 (sq := fun _ => true) (by kernel_rfl) ?_
  intro args ins pk hpre0 hpk
  obtain ⟨rfl, hpre0⟩ := hpre0
  obtain ⟨c, rfl, hpre, hdec⟩ := famPre_ex hpre0
  clear hpre0 hdec
  try simp only [spToPt_pre] at hpre
  replace hpk : pk + 0 ≤ pickLimit := hpk
  refine ⟨Nat.le_of_ble_eq_true rfl, ?_⟩
  simp (config := { maxSteps := 1000000 }) only [go_sem, ↓ifP_true, ↓ifP_false, ↓ifP_not, Nat.reduceLT, Nat.reduceAdd, Nat.reduceBEq, Nat.reduceSub, Nat.reduceLeDiff, Nat.reduceEqDiff, Nat.reduceMul, Int.reduceToNat, Int.reduceEq, Int.reduceLT, Int.reduceLE, Int.reduceAdd, Int.reduceSub, Int.reduceMul, reduceCtorEq, cond_true, cond_false, forall_eq', forall_eq, forall_const, implies_true, if_true, if_false, exists_eq_left', exists_eq', exists_eq, ne_eq, Tryd.f67, spToPt_q, spToPt_A, spToPt_pre, spToPt_post]
  repeat' (first | apply And.intro | (intro _) | omega | assumption | with_reducible rfl)
  all_goals (first | (rfl; done))
theorem sat_laws_toPoint : Sat Tryd.prog rt0 67 (wkIn spToPt) := sat_in (sat_out sat_laws_toPoint_0)
def spToPL_A : (List Pt) → List AV
  | l => [.c (.sl false (l.map ptC))]
def spToPL_pre : (List Pt) → Prop
  | l => l.length ≤ 1000000000
def spToPL_post : (List Pt) → AV → List Box → Prop
  | l, r, bs => r = .c (.own 0 (l).length false) ∧ bs = [⟨(l).map ptC, 2, 47, true, false⟩]
def spToPL : VE.Spec := famSpec spToPL_A d_lpt spToPL_pre spToPL_post 0 true
theorem spToPL_q : spToPL.flat = true ∧ spToPL.mt = [] ∧ spToPL.shut = false ∧ spToPL.cost = 0 ∧ (∀ a i, spToPL.pre a i = (i = [] ∧ famPre d_lpt spToPL_A spToPL_pre a)) ∧ ∀ a i r b, spToPL.post a i r b = (famPost d_lpt spToPL_post a r b) := ⟨rfl, rfl, rfl, rfl, fun _ _ => rfl, fun _ _ _ _ => rfl⟩
def tb43 : Nat → Option VE.Spec := tabOf [(67, wkIn spToPt)]
theorem tb43_67 : tb43 67 = some (wkIn spToPt) := rfl
theorem tb43_ok : TabOK Tryd.prog rt0 tb43 := (tabOf_cons (by kernel_rfl) sat_laws_toPoint tabOf_nil)
set_option maxHeartbeats 4000000 in
theorem sat_laws_toPointS_0 : Sat Tryd.prog rt0 43 (wkOut spToPL) := by
  refine fn_sat hm ttok (tab := tb43) tb43_ok Tryd.func43 (c := Tryd.f43.body.getD .skip) (by kernel_rfl) (ts := [.tmp 2]) (by kernel_rfl) Tryd.ntmps43 (sq := fun _ => true) (by kernel_rfl) ?_
  intro args ins pk hpre0 hpk
  obtain ⟨rfl, hpre0⟩ := hpre0
  obtain ⟨l, rfl, hpre, hdec⟩ := famPre_ex hpre0
  clear hpre0 hdec
  try simp only [spToPL_pre] at hpre
  replace hpk : pk + 0 ≤ pickLimit := hpk
  refine ⟨Nat.le_of_ble_eq_true rfl, ?_⟩
  simp (config := { maxSteps := 1000000 }) only [go_sem, ↓ifP_true, ↓ifP_false, ↓ifP_not, Nat.reduceLT, Nat.reduceAdd, Nat.reduceBEq, Nat.reduceSub, Nat.reduceLeDiff, Nat.reduceEqDiff, Nat.reduceMul, Int.reduceToNat, Int.reduceEq, Int.reduceLT, Int.reduceLE, Int.reduceAdd, Int.reduceSub, Int.reduceMul, reduceCtorEq, cond_true, cond_false, forall_eq', forall_eq, forall_const, implies_true, if_true, if_false, exists_eq_left', exists_eq', exists_eq, ne_eq, Tryd.f43, tb43_67, spToPL_q, spToPL_A, spToPL_pre, spToPL_post, spToPt_q, spToPt_A, spToPt_pre, spToPt_post, zr_ptC, Int.toNat_natCast, ptC_setm]
  repeat' (first | apply And.intro | (intro _) | omega | assumption | with_reducible rfl)
  any_goals
    refine loopS (α := (List Pt) × Int) false [1, 4, 5, 6, 7, 8, 9, 10, 11, 12, 13, 14, 15, 16, 17, 18, 19, 20, 21] (fun σ => [gId (σ.get 3)]) (fun σ x => [(3, .c (.own (gId (σ.get 3)) (x.1).length false)), (4, I x.2)]) (fun σ x => [(gId (σ.get 3), some ⟨(x.1).map ptC, 2, 47, true, false⟩)]) (fun (o, i) => 0) (fun σ => (gL ptCd σ (σ.get 3), gI (σ.get 4))) (fun σ τ => [(gId (σ.get 3), gId (τ.get 3))]) (fun (o, i) => (0 ≤ i ∧ i ≤ l.length) ∧ o = cpL l default i) (fun (o, i) => (l.length - i).toNat) ⟨by (simp (config := { maxSteps := 1000000 }) only [go_sem, ↓ifP_true, ↓ifP_false, ↓ifP_not, Nat.reduceLT, Nat.reduceAdd, Nat.reduceBEq, Nat.reduceSub, Nat.reduceLeDiff, Nat.reduceEqDiff, Nat.reduceMul, Int.reduceToNat, Int.reduceEq, Int.reduceLT, Int.reduceLE, Int.reduceAdd, Int.reduceSub, Int.reduceMul, reduceCtorEq, cond_true, cond_false, forall_eq', forall_eq, forall_const, implies_true, if_true, if_false, exists_eq_left', exists_eq', exists_eq, ne_eq, Tryd.f43, tb43_67, spToPL_q, spToPL_A, spToPL_pre, spToPL_post, spToPt_q, spToPt_A, spToPt_pre, spToPt_post, zr_ptC, Int.toNat_natCast, ptC_setm]; (repeat' (first | apply And.intro | (intro _) | omega | assumption | with_reducible rfl)); all_goals (first | rfl | omega | (rw [cpL_0]) | skip)), ?_⟩
    rintro ⟨o, i⟩ hinv
    try dsimp only at hinv
    rcases elemAt l i (by omega) with ⟨hlt, c, hk⟩ | hlt
    all_goals (first | ((have hlt2 := of_eq_true hlt); all_goals simp (config := { maxSteps := 1000000 }) only [go_sem, ↓ifP_true, ↓ifP_false, ↓ifP_not, Nat.reduceLT, Nat.reduceAdd, Nat.reduceBEq, Nat.reduceSub, Nat.reduceLeDiff, Nat.reduceEqDiff, Nat.reduceMul, Int.reduceToNat, Int.reduceEq, Int.reduceLT, Int.reduceLE, Int.reduceAdd, Int.reduceSub, Int.reduceMul, reduceCtorEq, cond_true, cond_false, forall_eq', forall_eq, forall_const, implies_true, if_true, if_false, exists_eq_left', exists_eq', exists_eq, ne_eq, Tryd.f43, tb43_67, spToPL_q, spToPL_A, spToPL_pre, spToPL_post, spToPt_q, spToPt_A, spToPt_pre, spToPt_post, zr_ptC, Int.toNat_natCast, ptC_setm, hlt, hk]) | (have hlt2 := of_eq_false hlt; simp (config := { maxSteps := 1000000 }) only [go_sem, ↓ifP_true, ↓ifP_false, ↓ifP_not, Nat.reduceLT, Nat.reduceAdd, Nat.reduceBEq, Nat.reduceSub, Nat.reduceLeDiff, Nat.reduceEqDiff, Nat.reduceMul, Int.reduceToNat, Int.reduceEq, Int.reduceLT, Int.reduceLE, Int.reduceAdd, Int.reduceSub, Int.reduceMul, reduceCtorEq, cond_true, cond_false, forall_eq', forall_eq, forall_const, implies_true, if_true, if_false, exists_eq_left', exists_eq', exists_eq, ne_eq, Tryd.f43, tb43_67, spToPL_q, spToPL_A, spToPL_pre, spToPL_post, spToPt_q, spToPt_A, spToPt_pre, spToPt_post, zr_ptC, Int.toNat_natCast, ptC_setm, hlt]))
    all_goals
      have hol : o.length = l.length := by rw [hinv.2]; exact cpL_len _ _ (by omega)
    all_goals
      repeat' (first | apply And.intro | (intro _) | omega | assumption | with_reducible rfl)
  
  all_goals (first | (omega; done) | (rfl; done) | ((rw [cpL_len _ _ (by omega)]; omega); done) | (exact cpL_set hinv.1.1 ‹_›; done) | ((rw [hinv.2]; exact cpL_set hinv.1.1 hk); done) | ((rw [hinv.2, cpL_end hlt2]); done) | ((rw [cpL_0, List.map_replicate]; rfl); done) | (skip; done))
theorem sat_laws_toPointS : Sat Tryd.prog rt0 43 (wkIn spToPL) := sat_in (sat_out sat_laws_toPointS_0)
def spToV_A : Verb → List AV
  | v => [.agg (vbC v)]
def spToV_pre : Verb → Prop
  | v => v.ps.length ≤ 1000000000
def spToV_post : Verb → AV → List Box → Prop
  | v, r, bs => r = .agg (vbC (v)) ∧ bs = []
def spToV : VE.Spec := famSpecS spToV_A d_vb spToV_pre spToV_post 0 true
theorem spToV_q : spToV.flat = true ∧ spToV.mt = [] ∧ spToV.shut = true ∧ spToV.cost = 0 ∧ (∀ a i, spToV.pre a i = (i = [] ∧ famPre d_vb spToV_A spToV_pre a)) ∧ ∀ a i r b, spToV.post a i r b = (famPost d_vb spToV_post a r b) := ⟨rfl, rfl, rfl, rfl, fun _ _ => rfl, fun _ _ _ _ => rfl⟩
def tb21 : Nat → Option VE.Spec := tabOf [(43, wkIn spToPL)]
theorem tb21_43 : tb21 43 = some (wkIn spToPL) := rfl
theorem tb21_ok : TabOK Tryd.prog rt0 tb21 := (tabOf_cons (by kernel_rfl) sat_laws_toPointS tabOf_nil)
set_option maxHeartbeats 4000000 in
theorem sat_laws_toVerb_0 : Sat Tryd.prog rt0 21 (wkOut spToV) := by
  refine fn_sat hm ttok (tab := tb21) tb21_ok Tryd.func21 (c := Tryd.f21.body.getD .skip) (by kernel_rfl) (ts := [.cell 2 43]) (by kernel_rfl) Tryd.ntmps21 (sq := fun _ => true) (by kernel_rfl) ?_
  intro args ins pk hpre0 hpk
  obtain ⟨rfl, hpre0⟩ := hpre0
  obtain ⟨v, rfl, hpre, hdec⟩ := famPre_ex hpre0
  clear hpre0 hdec
  try simp only [spToV_pre] at hpre
  replace hpk : pk + 0 ≤ pickLimit := hpk
  refine ⟨Nat.le_of_ble_eq_true rfl, ?_⟩
  simp (config := { maxSteps := 1000000 }) only [go_sem, ↓ifP_true, ↓ifP_false, ↓ifP_not, Nat.reduceLT, Nat.reduceAdd, Nat.reduceBEq, Nat.reduceSub, Nat.reduceLeDiff, Nat.reduceEqDiff, Nat.reduceMul, Int.reduceToNat, Int.reduceEq, Int.reduceLT, Int.reduceLE, Int.reduceAdd, Int.reduceSub, Int.reduceMul, reduceCtorEq, cond_true, cond_false, forall_eq', forall_eq, forall_const, implies_true, if_true, if_false, exists_eq_left', exists_eq', exists_eq, ne_eq, Tryd.f21, tb21_43, spToV_q, spToV_A, spToV_pre, spToV_post, spToPL_q, spToPL_A, spToPL_pre, spToPL_post]
  repeat' (first | apply And.intro | (intro _) | omega | assumption | with_reducible rfl)
  all_goals (first | (rfl; done) | (omega; done) | (skip; done))
theorem sat_laws_toVerb : Sat Tryd.prog rt0 21 (wkIn spToV) := sat_in (sat_out sat_laws_toVerb_0)
abbrev zVb0 : List C := [C.v (.int .i64 0), C.v (.slice none 0 0)]
theorem wk_zrow1 (A : List Verb) (n : Nat) : wkEs (A.map vbC ++ List.replicate n zVb0) = A.map vbC ++ List.replicate n zVb0 := by
  rw [wkEs_map, List.map_append, List.map_replicate, List.map_map]
  congr 1
  exact List.map_congr_left fun v _ => vbC_wk v
theorem wk_zrow2 (n : Nat) : wkEs (List.replicate n zVb0) = ([] : List Verb).map vbC ++ List.replicate (n - 0) zVb0 := wk_zrow1 [] n
theorem row_step1 {A : List (List C)} {z e : List C} {i n : Nat} (hA : A.length = i) (hi : i < n) : (A ++ List.replicate (n - i) z).set i e = A ++ [e] ++ List.replicate (n - (i + 1)) z := by
  rw [show n - i = (n - (i + 1)) + 1 by omega, List.replicate_succ, List.set_append_right _ _ (by omega), hA, Nat.sub_self, List.set_cons_zero, List.append_assoc]; rfl
theorem tv_row {p : List Verb} {j : Int} {v : Verb} {e : List C} (hk : p[j.toNat]? = some v) (h0 : 0 ≤ j) (he : ((p.take j.toNat).map vbC ++ List.replicate (p.length - j.toNat) zVb0)[j.toNat]? = some e) : wkEs (((p.take j.toNat).map vbC ++ List.replicate (p.length - j.toNat) zVb0).set j.toNat (vbC v ++ List.drop 2 e)) = (p.take (j + 1).toNat).map vbC ++ List.replicate (p.length - (j + 1).toNat) zVb0 := by
  have hl := (List.getElem?_eq_some_iff.1 hk).1
  have hA : ((p.take j.toNat).map vbC).length = j.toNat := by rw [List.length_map, List.length_take]; omega
  have hz : e = zVb0 := by
    rw [List.getElem?_append_right (by omega), hA, Nat.sub_self, List.getElem?_replicate, if_pos (by omega)] at he
    exact (Option.some.inj he).symm
  subst hz
  have hd : vbC v ++ List.drop 2 zVb0 = vbC v := rfl
  rw [hd]
  rw [show (j + 1).toNat = j.toNat + 1 by omega, row_step1 hA (by omega)]
  have e1 : (p.take j.toNat).map vbC ++ [vbC v] = (p.take (j.toNat + 1)).map vbC := by
    have := takeN hk h0
    rw [show (j + 1).toNat = j.toNat + 1 by omega] at this
    rw [this, List.map_append]; rfl
  rw [e1, wk_zrow1]
theorem tv_end {p : List Verb} {j : Int} (h : ¬ j < (p.length : Int)) (h1 : j ≤ p.length) : (p.take j.toNat).map vbC ++ List.replicate (p.length - j.toNat) zVb0 = p.map vbC := by
  rw [takeA (by omega), show p.length - j.toNat = 0 by omega, List.replicate_zero, List.append_nil]
def spToVL_A : (List Verb) → List AV
  | p => [.c (.sl false (p.map vbC))]
def spToVL_pre : (List Verb) → Prop
  | p => p.length ≤ 1000000000 ∧ ∀ v ∈ p, v.ps.length ≤ 1000000000
def spToVL_post : (List Verb) → AV → List Box → Prop
  | p, r, bs => r = .c (.own 0 (p).length false) ∧ bs = [⟨(p).map vbC, 2, 43, true, false⟩]
def spToVL : VE.Spec := famSpec spToVL_A d_lvb spToVL_pre spToVL_post 0 false
theorem spToVL_q : spToVL.flat = false ∧ spToVL.mt = [] ∧ spToVL.shut = false ∧ spToVL.cost = 0 ∧ (∀ a i, spToVL.pre a i = (i = [] ∧ famPre d_lvb spToVL_A spToVL_pre a)) ∧ ∀ a i r b, spToVL.post a i r b = (famPost d_lvb spToVL_post a r b) := ⟨rfl, rfl, rfl, rfl, fun _ _ => rfl, fun _ _ _ _ => rfl⟩
def tb8 : Nat → Option VE.Spec := tabOf [(21, wkIn spToV)]
theorem tb8_21 : tb8 21 = some (wkIn spToV) := rfl
theorem tb8_ok : TabOK Tryd.prog rt0 tb8 := (tabOf_cons (by kernel_rfl) sat_laws_toVerb tabOf_nil)
set_option maxHeartbeats 4000000 in
theorem sat_laws_toVerbS_0 : Sat Tryd.prog rt0 8 (wkOut spToVL) := by
  refine fn_sat hm ttok (tab := tb8) tb8_ok Tryd.func8 (c := Tryd.f8.body.getD .skip) (by kernel_rfl) (ts := [.tmp 2]) (by kernel_rfl) Tryd.ntmps8 (sq := fun _ => true) (by kernel_rfl) ?_
  intro args ins pk hpre0 hpk
  obtain ⟨rfl, hpre0⟩ := hpre0
  obtain ⟨p, rfl, hpre, hdec⟩ := famPre_ex hpre0
  clear hpre0 hdec
  try simp only [spToVL_pre] at hpre
  replace hpk : pk + 0 ≤ pickLimit := hpk
  refine ⟨Nat.le_of_ble_eq_true rfl, ?_⟩
  simp (config := { maxSteps := 1000000 }) only [go_sem, ↓ifP_true, ↓ifP_false, ↓ifP_not, Nat.reduceLT, Nat.reduceAdd, Nat.reduceBEq, Nat.reduceSub, Nat.reduceLeDiff, Nat.reduceEqDiff, Nat.reduceMul, Int.reduceToNat, Int.reduceEq, Int.reduceLT, Int.reduceLE, Int.reduceAdd, Int.reduceSub, Int.reduceMul, reduceCtorEq, cond_true, cond_false, forall_eq', forall_eq, forall_const, implies_true, if_true, if_false, exists_eq_left', exists_eq', exists_eq, ne_eq, Tryd.f8, tb8_21, spToVL_q, spToVL_A, spToVL_pre, spToVL_post, spToV_q, spToV_A, spToV_pre, spToV_post, Int.toNat_natCast]
  repeat' (first | apply And.intro | (intro _) | omega | assumption | with_reducible rfl)
  any_goals
    refine loopS (α := Int) true [1, 4, 5, 6, 7, 8, 9, 10, 11, 12, 13, 14, 15, 16, 17, 18, 19, 20, 21, 22] (fun σ => [gId (σ.get 3)]) (fun σ j => [(4, I j)]) (fun σ j => [(gId (σ.get 3), some ⟨(p.take j.toNat).map vbC ++ List.replicate (p.length - j.toNat) zVb0, 2, 43, true, false⟩)]) (fun _ => 0) (fun σ => gI (σ.get 4)) (fun _ _ => []) (fun j => 0 ≤ j ∧ j ≤ p.length) (fun j => (p.length - j).toNat) ⟨?_, ?_⟩
    · simp (config := { maxSteps := 1000000 }) only [go_sem, ↓ifP_true, ↓ifP_false, ↓ifP_not, Nat.reduceLT, Nat.reduceAdd, Nat.reduceBEq, Nat.reduceSub, Nat.reduceLeDiff, Nat.reduceEqDiff, Nat.reduceMul, Int.reduceToNat, Int.reduceEq, Int.reduceLT, Int.reduceLE, Int.reduceAdd, Int.reduceSub, Int.reduceMul, reduceCtorEq, cond_true, cond_false, forall_eq', forall_eq, forall_const, implies_true, if_true, if_false, exists_eq_left', exists_eq', exists_eq, ne_eq, Tryd.f8, tb8_21, spToVL_q, spToVL_A, spToVL_pre, spToVL_post, spToV_q, spToV_A, spToV_pre, spToV_post, Int.toNat_natCast]
      repeat' (first | apply And.intro | (intro _) | omega | assumption | with_reducible rfl)
      all_goals (first | (omega; done) | (exact wk_zrow2 _; done) | (exact hpre.2 v (List.mem_of_getElem? hk); done) | ((simp only [List.length_append, List.length_map, List.length_take, List.length_replicate]; omega); done) | (rfl; done) | (exact tv_row hk hinv.1 ‹_›; done) | ((rw [tv_end hlt2 hinv.2]); done) | ((rw [List.length_take]; omega); done) | (skip; done))
    · intro j hinv
      rcases elemAt p j (by omega) with ⟨hlt, v, hk⟩ | hlt
      · have hlt2 := of_eq_true hlt
        simp (config := { maxSteps := 1000000 }) only [go_sem, ↓ifP_true, ↓ifP_false, ↓ifP_not, Nat.reduceLT, Nat.reduceAdd, Nat.reduceBEq, Nat.reduceSub, Nat.reduceLeDiff, Nat.reduceEqDiff, Nat.reduceMul, Int.reduceToNat, Int.reduceEq, Int.reduceLT, Int.reduceLE, Int.reduceAdd, Int.reduceSub, Int.reduceMul, reduceCtorEq, cond_true, cond_false, forall_eq', forall_eq, forall_const, implies_true, if_true, if_false, exists_eq_left', exists_eq', exists_eq, ne_eq, Tryd.f8, tb8_21, spToVL_q, spToVL_A, spToVL_pre, spToVL_post, spToV_q, spToV_A, spToV_pre, spToV_post, Int.toNat_natCast, hlt, hk]
        repeat' (first | apply And.intro | (intro _) | omega | assumption | with_reducible rfl)
        all_goals (first | (omega; done) | (exact wk_zrow2 _; done) | (exact hpre.2 v (List.mem_of_getElem? hk); done) | ((simp only [List.length_append, List.length_map, List.length_take, List.length_replicate]; omega); done) | (rfl; done) | (exact tv_row hk hinv.1 ‹_›; done) | ((rw [tv_end hlt2 hinv.2]); done) | ((rw [List.length_take]; omega); done) | (skip; done))
      · have hlt2 := of_eq_false hlt
        have hE := tv_end hlt2 hinv.2
        simp (config := { maxSteps := 1000000 }) only [go_sem, ↓ifP_true, ↓ifP_false, ↓ifP_not, Nat.reduceLT, Nat.reduceAdd, Nat.reduceBEq, Nat.reduceSub, Nat.reduceLeDiff, Nat.reduceEqDiff, Nat.reduceMul, Int.reduceToNat, Int.reduceEq, Int.reduceLT, Int.reduceLE, Int.reduceAdd, Int.reduceSub, Int.reduceMul, reduceCtorEq, cond_true, cond_false, forall_eq', forall_eq, forall_const, implies_true, if_true, if_false, exists_eq_left', exists_eq', exists_eq, ne_eq, Tryd.f8, tb8_21, spToVL_q, spToVL_A, spToVL_pre, spToVL_post, spToV_q, spToV_A, spToV_pre, spToV_post, Int.toNat_natCast, hlt, hE]
        repeat' (first | apply And.intro | (intro _) | omega | assumption | with_reducible rfl)
        all_goals (first | (omega; done) | (exact wk_zrow2 _; done) | (exact hpre.2 v (List.mem_of_getElem? hk); done) | ((simp only [List.length_append, List.length_map, List.length_take, List.length_replicate]; omega); done) | (rfl; done) | (exact tv_row hk hinv.1 ‹_›; done) | ((rw [tv_end hlt2 hinv.2]); done) | ((rw [List.length_take]; omega); done) | (skip; done))
theorem sat_laws_toVerbS : Sat Tryd.prog rt0 8 (wkIn spToVL) := sat_in (sat_out sat_laws_toVerbS_0)
end Go.Proofs.YthphndhiacikaaaDoor
