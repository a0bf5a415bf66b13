/- Contracts of functions of the program vectorraster, each proved for all states that fit its description. No conditions. -/
import Derived.Test.YtjjmjidchehffaaPG
import Derived.Test.YtjjmjidchehffaaKK
set_option linter.unusedSimpArgs false
set_option linter.unusedVariables false
section
set_option maxRecDepth 100000
set_option linter.unusedSimpArgs false
set_option linter.unusedVariables false
namespace Go.Proofs.Ytjjmjidchehffaa
open Go Go.VE
theorem nil_of {l : List Pt} {b : Bool} (h : ¬ List.map ptC l = [] → b = false) (hb : b = true) : l = [] := by
  by_cases e : List.map ptC l = []
  · exact List.map_eq_nil_iff.1 e
  · rw [h e] at hb; cases hb
def spClone_A : (List Pt) → List AV
  | l => [.c (.sl false (l.map ptC))]
def spClone_pre : (List Pt) → Prop
  | l => l.length ≤ 1000000000
def spClone_post : (List Pt) → AV → List Box → Prop
  | l, r, bs => r = .c (.own 0 (l).length false) ∧ bs = [⟨(l).map ptC, 2, 38, true, false⟩]
def spClone : VE.Spec := famSpec spClone_A d_lpt spClone_pre spClone_post 0 false
theorem spClone_q : spClone.flat = false ∧ spClone.mt = [] ∧ spClone.shut = false ∧ spClone.cost = 0 ∧ (∀ a i, spClone.pre a i = (i = [] ∧ famPre d_lpt spClone_A spClone_pre a)) ∧ ∀ a i r b, spClone.post a i r b = (famPost d_lpt spClone_post a r b) := ⟨rfl, rfl, rfl, rfl, fun _ _ => rfl, fun _ _ _ _ => rfl⟩
def tb124 : Nat → Option VE.Spec := tabOf []
theorem tb124_ok : TabOK Try.prog rt0 tb124 := tabOf_nil
set_option maxHeartbeats 4000000 in
theorem sat_slices_Clone_impl_Point_impl_Point_0 : Sat Try.prog rt0 124 (wkOut spClone) := by
  refine fn_sat hm ttok (tab := tb124) tb124_ok Try.func124 (c := Try.f124.body.getD .skip) (by kernel_rfl) (ts := [.tmp 2]) (by kernel_rfl) Try.ntmps124 (sq := fun _ => true) (by kernel_rfl) ?_
  intro args ins pk hpre0 hpk
  obtain ⟨rfl, hpre0⟩ := hpre0
  obtain ⟨l, rfl, hpre, hdec⟩ := famPre_ex hpre0
  clear hpre0 hdec
  try simp only [spClone_pre] at hpre
  replace hpk : pk + 0 ≤ pickLimit := hpk
  refine ⟨Nat.le_of_ble_eq_true rfl, ?_⟩
  simp (config := { maxSteps := 1000000 }) only [go_sem, ↓ifP_true, ↓ifP_false, ↓ifP_not, Nat.reduceLT, Nat.reduceAdd, Nat.reduceBEq, Nat.reduceSub, Nat.reduceLeDiff, Nat.reduceEqDiff, Nat.reduceMul, Int.reduceToNat, Int.reduceEq, Int.reduceLT, Int.reduceLE, Int.reduceAdd, Int.reduceSub, Int.reduceMul, reduceCtorEq, cond_true, cond_false, forall_eq', forall_eq, forall_const, implies_true, if_true, if_false, exists_eq_left', exists_eq', exists_eq, ne_eq, Try.f124, spClone_q, spClone_A, spClone_pre, spClone_post]
  repeat' (first | apply And.intro | (intro _) | omega | assumption | with_reducible rfl)
  all_goals (first | ((obtain rfl := nil_of (l := l) ‹_› ‹_›; rfl); done))
theorem sat_slices_Clone_impl_Point_impl_Point : Sat Try.prog rt0 124 (wkIn spClone) := sat_in (sat_out sat_slices_Clone_impl_Point_impl_Point_0)
def spClip_A : List Pt → List AV := fun l => [.c (.own 0 l.length false)]
def spClip_B : List Pt → List Box := fun l => [⟨l.map ptC, 2, 38, true, false⟩]
def spClip_d : List AV → List Box → Option (List Pt)
  | [.c (.own 0 _ false)], [⟨es, _, _, _, _⟩] => decAll ptCd es
  | _, _ => none
def spClip_pre : List Pt → Prop := fun l => l.length ≤ 1000000000
def spClip_post : List Pt → AV → List Box → Prop := fun l r bs => r = .c (.own 0 (l).length false) ∧ bs = [⟨(l).map ptC, 2, 38, true, false⟩]
def spClip : VE.Spec := famSpecM spClip_A spClip_B spClip_d spClip_pre spClip_post 0 false [true] false
theorem spClip_q : spClip.flat = false ∧ spClip.mt = [true] ∧ spClip.shut = false ∧ spClip.cost = 0 ∧ (∀ a i, spClip.pre a i = (famPreM spClip_d spClip_A spClip_B spClip_pre a i)) ∧ ∀ a i r b, spClip.post a i r b = (famPostM spClip_d spClip_post a i r b) := ⟨rfl, rfl, rfl, rfl, fun _ _ => rfl, fun _ _ _ _ => rfl⟩
def tb123 : Nat → Option VE.Spec := tabOf []
theorem tb123_ok : TabOK Try.prog rt0 tb123 := tabOf_nil
set_option maxHeartbeats 4000000 in
theorem sat_slices_Clip_impl_Point_impl_Point_0 : Sat Try.prog rt0 123 (wkOut spClip) := by
  refine fn_sat hm ttok (tab := tb123) tb123_ok Try.func123 (c := Try.f123.body.getD .skip) (by kernel_rfl) (ts := [.tmp 2]) (by kernel_rfl) Try.ntmps123 (sq := fun _ => true) (by kernel_rfl) ?_
  intro args ins pk hpre0 hpk
  obtain ⟨l, rfl, rfl, hpre, hdec⟩ := famPreM_ex hpre0
  clear hpre0 hdec
  try simp only [spClip_pre] at hpre
  replace hpk : pk + 0 ≤ pickLimit := hpk
  refine ⟨Nat.le_of_ble_eq_true rfl, ?_⟩
  simp (config := { maxSteps := 1000000 }) only [go_sem, ↓ifP_true, ↓ifP_false, ↓ifP_not, Nat.reduceLT, Nat.reduceAdd, Nat.reduceBEq, Nat.reduceSub, Nat.reduceLeDiff, Nat.reduceEqDiff, Nat.reduceMul, Int.reduceToNat, Int.reduceEq, Int.reduceLT, Int.reduceLE, Int.reduceAdd, Int.reduceSub, Int.reduceMul, reduceCtorEq, cond_true, cond_false, forall_eq', forall_eq, forall_const, implies_true, if_true, if_false, exists_eq_left', exists_eq', exists_eq, ne_eq, Try.f123, spClip_q, spClip_A, spClip_B, spClip_d, spClip_pre, spClip_post]
  repeat' (first | apply And.intro | (intro _) | omega | assumption | with_reducible rfl)
  all_goals (first | (omega; done))
theorem sat_slices_Clip_impl_Point_impl_Point : Sat Try.prog rt0 123 (wkIn spClip) := sat_in (sat_out sat_slices_Clip_impl_Point_impl_Point_0)
def tb107 : Nat → Option VE.Spec := tabOf [(124, wkIn spClone), (123, wkIn spClip)]
theorem tb107_124 : tb107 124 = some (wkIn spClone) := rfl
theorem tb107_123 : tb107 123 = some (wkIn spClip) := rfl
theorem tb107_ok : TabOK Try.prog rt0 tb107 := (tabOf_cons (by kernel_rfl) sat_slices_Clone_impl_Point_impl_Point (tabOf_cons (by kernel_rfl) sat_slices_Clip_impl_Point_impl_Point tabOf_nil))
set_option maxHeartbeats 4000000 in
theorem sat_impl_clone_impl_Point_0 : Sat Try.prog rt0 107 (wkOut spClone) := by
  refine fn_sat hm ttok (tab := tb107) tb107_ok Try.func107 (c := Try.f107.body.getD .skip) (by kernel_rfl) (ts := [.tmp 2]) (by kernel_rfl) Try.ntmps107 (sq := fun _ => true) (by kernel_rfl) ?_
  intro args ins pk hpre0 hpk
  obtain ⟨rfl, hpre0⟩ := hpre0
  obtain ⟨l, rfl, hpre, hdec⟩ := famPre_ex hpre0
  clear hpre0 hdec
  try simp only [spClone_pre] at hpre
  replace hpk : pk + 0 ≤ pickLimit := hpk
  refine ⟨Nat.le_of_ble_eq_true rfl, ?_⟩
  simp (config := { maxSteps := 1000000 }) only [go_sem, ↓ifP_true, ↓ifP_false, ↓ifP_not, Nat.reduceLT, Nat.reduceAdd, Nat.reduceBEq, Nat.reduceSub, Nat.reduceLeDiff, Nat.reduceEqDiff, Nat.reduceMul, Int.reduceToNat, Int.reduceEq, Int.reduceLT, Int.reduceLE, Int.reduceAdd, Int.reduceSub, Int.reduceMul, reduceCtorEq, cond_true, cond_false, forall_eq', forall_eq, forall_const, implies_true, if_true, if_false, exists_eq_left', exists_eq', exists_eq, ne_eq, Try.f107, tb107_124, tb107_123, spClone_q, spClone_A, spClone_pre, spClone_post, spClip_q, spClip_A, spClip_B, spClip_d, spClip_pre, spClip_post]
  repeat' (first | apply And.intro | (intro _) | omega | assumption | with_reducible rfl)
  all_goals (first | (omega; done))
theorem sat_impl_clone_impl_Point : Sat Try.prog rt0 107 (wkIn spClone) := sat_in (sat_out sat_impl_clone_impl_Point_0)
def mv (x y : Int) (p : Pt) : Pt := ⟨p.x + x, p.y + y⟩
def mvs (l : List Pt) (x y : Int) : List Pt := l.map (mv x y)
theorem pt_set (o : List Pt) (n : Nat) (a b : Int) : (List.map ptC o).set n [.v (.int .i64 a), .v (.int .i64 b)] = List.map ptC (o.set n ⟨a, b⟩) := by rw [List.map_set]; rfl
theorem set_same {α : Type} {o : List α} {n : Nat} {p : α} (h : o[n]? = some p) (q : α) : (o.set n q)[n]? = some q := by
  rw [List.getElem?_set_self (List.getElem?_eq_some_iff.1 h).1]
theorem mvs_at {l o : List Pt} {x y i : Int} {p : Pt} (ho : o = mvs (l.take i.toNat) x y ++ l.drop i.toNat) (h0 : 0 ≤ i) (hi : i < l.length) (hp : o[i.toNat]? = some p) : l[i.toNat]? = some p := by
  rw [ho, List.getElem?_append_right (by simp [mvs]; omega), List.getElem?_drop] at hp
  rw [← hp]; congr 1; simp [mvs]; omega
theorem mvs_step {l o : List Pt} {x y i : Int} {p : Pt} (ho : o = mvs (l.take i.toNat) x y ++ l.drop i.toNat) (h0 : 0 ≤ i) (hp : l[i.toNat]? = some p) : o.set i.toNat ⟨p.x + x, p.y + y⟩ = mvs (l.take (i + 1).toNat) x y ++ l.drop (i + 1).toNat := by
  have hl := (List.getElem?_eq_some_iff.1 hp).1
  rw [ho, dropN hp h0, takeN hp h0, List.set_append_right _ _ (by simp [mvs]; omega)]
  have e : i.toNat - (mvs (l.take i.toNat) x y).length = 0 := by simp [mvs]; omega
  rw [e]
  simp [mvs, mv]
def spMvd_A : (List Pt) × Int × Int → List AV
  | (l, x, y) => [.c (.sl false (l.map ptC)), I x, I y]
def spMvd_pre : (List Pt) × Int × Int → Prop
  | (l, x, y) => l.length ≤ 1000000 ∧ okL l ∧ (-3000 ≤ x ∧ x ≤ 3000) ∧ -3000 ≤ y ∧ y ≤ 3000
def spMvd_post : (List Pt) × Int × Int → AV → List Box → Prop
  | (l, x, y), r, bs => r = .c (.own 0 (mvs l x y).length false) ∧ bs = [⟨(mvs l x y).map ptC, 2, 38, true, false⟩]
def spMvd : VE.Spec := famSpec spMvd_A d_lpt_i_i spMvd_pre spMvd_post 0 true
theorem spMvd_q : spMvd.flat = true ∧ spMvd.mt = [] ∧ spMvd.shut = false ∧ spMvd.cost = 0 ∧ (∀ a i, spMvd.pre a i = (i = [] ∧ famPre d_lpt_i_i spMvd_A spMvd_pre a)) ∧ ∀ a i r b, spMvd.post a i r b = (famPost d_lpt_i_i spMvd_post a r b) := ⟨rfl, rfl, rfl, rfl, fun _ _ => rfl, fun _ _ _ _ => rfl⟩
def tb114 : Nat → Option VE.Spec := tabOf [(107, wkIn spClone)]
theorem tb114_107 : tb114 107 = some (wkIn spClone) := rfl
theorem tb114_ok : TabOK Try.prog rt0 tb114 := (tabOf_cons (by kernel_rfl) sat_impl_clone_impl_Point tabOf_nil)
set_option maxHeartbeats 4000000 in
theorem sat_impl_moved_0 : Sat Try.prog rt0 114 (wkOut spMvd) := by
  refine fn_sat hm ttok (tab := tb114) tb114_ok Try.func114 (c := Try.f114.body.getD .skip) (by kernel_rfl) (ts := [.tmp 6]) (by kernel_rfl) Try.ntmps114 (sq := fun _ => true) (by kernel_rfl) ?_
  intro args ins pk hpre0 hpk
  obtain ⟨rfl, hpre0⟩ := hpre0
  obtain ⟨⟨l, x, y⟩, rfl, hpre, hdec⟩ := famPre_ex hpre0
  clear hpre0 hdec
  try simp only [spMvd_pre] at hpre
  replace hpk : pk + 0 ≤ pickLimit := hpk
  refine ⟨Nat.le_of_ble_eq_true rfl, ?_⟩
  simp (config := { maxSteps := 1000000 }) only [go_sem, ↓ifP_true, ↓ifP_false, ↓ifP_not, Nat.reduceLT, Nat.reduceAdd, Nat.reduceBEq, Nat.reduceSub, Nat.reduceLeDiff, Nat.reduceEqDiff, Nat.reduceMul, Int.reduceToNat, Int.reduceEq, Int.reduceLT, Int.reduceLE, Int.reduceAdd, Int.reduceSub, Int.reduceMul, reduceCtorEq, cond_true, cond_false, forall_eq', forall_eq, forall_const, implies_true, if_true, if_false, exists_eq_left', exists_eq', exists_eq, ne_eq, Try.f114, tb114_107, spMvd_q, spMvd_A, spMvd_pre, spMvd_post, spClone_q, spClone_A, spClone_pre, spClone_post]
  repeat' (first | apply And.intro | (intro _) | omega | assumption | with_reducible rfl)
  any_goals
    refine loopS (α := (List Pt) × Int) false [0, 3, 4, 5, 8, 9, 10, 11, 13, 14, 15, 16, 17, 18, 19, 20, 21, 22, 23, 24, 25, 26, 27, 28, 29, 30, 31, 32, 33, 34] (fun σ => [gId (σ.get 7)]) (fun σ x => [(7, .c (.own (gId (σ.get 7)) (x.1).length false)), (13, I x.2)]) (fun σ x => [(gId (σ.get 7), some ⟨(x.1).map ptC, 2, 38, true, false⟩)]) (fun (o, i) => 0) (fun σ => (gL ptCd σ (σ.get 7), gI (σ.get 13))) (fun σ τ => [(gId (σ.get 7), gId (τ.get 7))]) (fun (o, i) => 0 ≤ i ∧ i ≤ l.length ∧ o.length = l.length ∧ o = mvs (l.take i.toNat) x y ++ l.drop i.toNat) (fun (o, i) => (l.length - i).toNat) ⟨by (simp (config := { maxSteps := 1000000 }) only [go_sem, ↓ifP_true, ↓ifP_false, ↓ifP_not, Nat.reduceLT, Nat.reduceAdd, Nat.reduceBEq, Nat.reduceSub, Nat.reduceLeDiff, Nat.reduceEqDiff, Nat.reduceMul, Int.reduceToNat, Int.reduceEq, Int.reduceLT, Int.reduceLE, Int.reduceAdd, Int.reduceSub, Int.reduceMul, reduceCtorEq, cond_true, cond_false, forall_eq', forall_eq, forall_const, implies_true, if_true, if_false, exists_eq_left', exists_eq', exists_eq, ne_eq, Try.f114, tb114_107, spMvd_q, spMvd_A, spMvd_pre, spMvd_post, spClone_q, spClone_A, spClone_pre, spClone_post, pt_set, List.set_set, List.length_set]; (repeat' (first | apply And.intro | (intro _) | omega | assumption | with_reducible rfl)); all_goals (first | rfl)), ?_⟩
    rintro ⟨o, i⟩ hinv
    try dsimp only at hinv
    rcases elemAt o i (by omega) with ⟨hlt, p, hk⟩ | hlt
    all_goals (first | ((have hlt2 := of_eq_true hlt); (have hset := set_same hk); (have hP := mvs_at hinv.2.2.2 hinv.1 (by omega) hk); (have hO := hpre.2.1.all p (List.mem_of_getElem? hP)); (have hS := mvs_step hinv.2.2.2 hinv.1 hP); (obtain ⟨o1, o2, o3, o4⟩ := hO); all_goals (first | simp (config := { maxSteps := 1000000 }) only [go_sem, ↓ifP_true, ↓ifP_false, ↓ifP_not, Nat.reduceLT, Nat.reduceAdd, Nat.reduceBEq, Nat.reduceSub, Nat.reduceLeDiff, Nat.reduceEqDiff, Nat.reduceMul, Int.reduceToNat, Int.reduceEq, Int.reduceLT, Int.reduceLE, Int.reduceAdd, Int.reduceSub, Int.reduceMul, reduceCtorEq, cond_true, cond_false, forall_eq', forall_eq, forall_const, implies_true, if_true, if_false, exists_eq_left', exists_eq', exists_eq, ne_eq, Try.f114, tb114_107, spMvd_q, spMvd_A, spMvd_pre, spMvd_post, spClone_q, spClone_A, spClone_pre, spClone_post, pt_set, List.set_set, List.length_set, hlt, hk, hset] | simp (config := { maxSteps := 1000000 }) only [go_sem, ↓ifP_true, ↓ifP_false, ↓ifP_not, Nat.reduceLT, Nat.reduceAdd, Nat.reduceBEq, Nat.reduceSub, Nat.reduceLeDiff, Nat.reduceEqDiff, Nat.reduceMul, Int.reduceToNat, Int.reduceEq, Int.reduceLT, Int.reduceLE, Int.reduceAdd, Int.reduceSub, Int.reduceMul, reduceCtorEq, cond_true, cond_false, forall_eq', forall_eq, forall_const, implies_true, if_true, if_false, exists_eq_left', exists_eq', exists_eq, ne_eq, Try.f114, tb114_107, spMvd_q, spMvd_A, spMvd_pre, spMvd_post, spClone_q, spClone_A, spClone_pre, spClone_post, pt_set, List.set_set, List.length_set, hlt, hk])) | (have hlt2 := of_eq_false hlt; (first | simp (config := { maxSteps := 1000000 }) only [go_sem, ↓ifP_true, ↓ifP_false, ↓ifP_not, Nat.reduceLT, Nat.reduceAdd, Nat.reduceBEq, Nat.reduceSub, Nat.reduceLeDiff, Nat.reduceEqDiff, Nat.reduceMul, Int.reduceToNat, Int.reduceEq, Int.reduceLT, Int.reduceLE, Int.reduceAdd, Int.reduceSub, Int.reduceMul, reduceCtorEq, cond_true, cond_false, forall_eq', forall_eq, forall_const, implies_true, if_true, if_false, exists_eq_left', exists_eq', exists_eq, ne_eq, Try.f114, tb114_107, spMvd_q, spMvd_A, spMvd_pre, spMvd_post, spClone_q, spClone_A, spClone_pre, spClone_post, pt_set, List.set_set, List.length_set, hlt, hset] | simp (config := { maxSteps := 1000000 }) only [go_sem, ↓ifP_true, ↓ifP_false, ↓ifP_not, Nat.reduceLT, Nat.reduceAdd, Nat.reduceBEq, Nat.reduceSub, Nat.reduceLeDiff, Nat.reduceEqDiff, Nat.reduceMul, Int.reduceToNat, Int.reduceEq, Int.reduceLT, Int.reduceLE, Int.reduceAdd, Int.reduceSub, Int.reduceMul, reduceCtorEq, cond_true, cond_false, forall_eq', forall_eq, forall_const, implies_true, if_true, if_false, exists_eq_left', exists_eq', exists_eq, ne_eq, Try.f114, tb114_107, spMvd_q, spMvd_A, spMvd_pre, spMvd_post, spClone_q, spClone_A, spClone_pre, spClone_post, pt_set, List.set_set, List.length_set, hlt])))
    all_goals
      repeat' (first | apply And.intro | (intro _) | omega | assumption | with_reducible rfl)
  
  all_goals (first | ((rw [hinv.2.2.2, takeA (by omega), dropA (by omega), List.append_nil]); done) | ((rw [hinv.2.2.1, mvs, List.length_map]); done))
theorem sat_impl_moved : Sat Try.prog rt0 114 (wkIn spMvd) := sat_in (sat_out sat_impl_moved_0)
end Go.Proofs.Ytjjmjidchehffaa
end
section
set_option maxRecDepth 100000
set_option linter.unusedSimpArgs false
set_option linter.unusedVariables false
namespace Go.Proofs.Ytjjmjidchehffaa
open Go Go.VE
theorem mvs_len (l : List Pt) (x y : Int) : (mvs l x y).length = l.length := List.length_map _
def mpOk (l : List Pt) (x y : Int) : Bool := vPts l && isU x && isU y && vPts (mvs l x y)
def spMP_A : (List Pt) × Int × Int → List AV
  | (l, x, y) => [.c (.sl false (l.map ptC)), I x, I y]
def spMP_pre : (List Pt) × Int × Int → Prop
  | (l, x, y) => l.length ≤ 1000000
def spMP_post : (List Pt) × Int × Int → AV → List Box → Prop
  | (l, x, y), r, bs => r = .tup [.c (.sl false (((if mpOk l x y = true then mvs l x y else [])).map ptC)), B (mpOk l x y)] ∧ bs = []
def spMP : VE.Spec := famSpecS spMP_A d_lpt_i_i spMP_pre spMP_post 0 false
theorem spMP_q : spMP.flat = false ∧ spMP.mt = [] ∧ spMP.shut = true ∧ spMP.cost = 0 ∧ (∀ a i, spMP.pre a i = (i = [] ∧ famPre d_lpt_i_i spMP_A spMP_pre a)) ∧ ∀ a i r b, spMP.post a i r b = (famPost d_lpt_i_i spMP_post a r b) := ⟨rfl, rfl, rfl, rfl, fun _ _ => rfl, fun _ _ _ _ => rfl⟩
def tb87 : Nat → Option VE.Spec := tabOf [(77, wkIn spVPts), (71, wkIn spIsU), (114, wkIn spMvd)]
theorem tb87_77 : tb87 77 = some (wkIn spVPts) := rfl
theorem tb87_71 : tb87 71 = some (wkIn spIsU) := rfl
theorem tb87_114 : tb87 114 = some (wkIn spMvd) := rfl
theorem tb87_ok : TabOK Try.prog rt0 tb87 := (tabOf_cons (by kernel_rfl) sat_impl_pointsValid (tabOf_cons (by kernel_rfl) sat_impl_isUnit (tabOf_cons (by kernel_rfl) sat_impl_moved tabOf_nil)))
set_option maxHeartbeats 4000000 in
theorem sat_impl_MovePoints_0 : Sat Try.prog rt0 87 (wkOut spMP) := by
  refine fn_sat hm ttok (tab := tb87) tb87_ok Try.func87 (c := Try.f87.body.getD .skip) (by kernel_rfl) (ts := [.tmp 6, .tmp 7]) (by kernel_rfl) Try.ntmps87 (sq := fun _ => true) (by kernel_rfl) ?_
  intro args ins pk hpre0 hpk
  obtain ⟨rfl, hpre0⟩ := hpre0
  obtain ⟨⟨l, x, y⟩, rfl, hpre, hdec⟩ := famPre_ex hpre0
  clear hpre0 hdec
  try simp only [spMP_pre] at hpre
  replace hpk : pk + 0 ≤ pickLimit := hpk
  refine ⟨Nat.le_of_ble_eq_true rfl, ?_⟩
  simp (config := { maxSteps := 1000000 }) only [go_sem, ↓ifP_true, ↓ifP_false, ↓ifP_not, Nat.reduceLT, Nat.reduceAdd, Nat.reduceBEq, Nat.reduceSub, Nat.reduceLeDiff, Nat.reduceEqDiff, Nat.reduceMul, Int.reduceToNat, Int.reduceEq, Int.reduceLT, Int.reduceLE, Int.reduceAdd, Int.reduceSub, Int.reduceMul, reduceCtorEq, cond_true, cond_false, forall_eq', forall_eq, forall_const, implies_true, if_true, if_false, exists_eq_left', exists_eq', exists_eq, ne_eq, Try.f87, tb87_77, tb87_71, tb87_114, spMP_q, spMP_A, spMP_pre, spMP_post, spVPts_q, spVPts_A, spVPts_pre, spVPts_post, spIsU_q, spIsU_A, spIsU_pre, spIsU_post, spMvd_q, spMvd_A, spMvd_pre, spMvd_post]
  repeat' (first | apply And.intro | (intro _) | omega | assumption | with_reducible rfl)
  all_goals (first | (exact vPts_ok ‹_›; done) | ((have h1 := isU_iff.1 ‹isU x = true›; have h2 := isU_iff.1 ‹isU y = true›; omega); done) | ((rw [mvs_len]; omega); done) | ((simp [mpOk, *]); done))
theorem sat_impl_MovePoints : Sat Try.prog rt0 87 (wkIn spMP) := sat_in (sat_out sat_impl_MovePoints_0)
def mvL (L : List (List Pt)) (x y : Int) : List (List Pt) := L.map fun r => mvs r x y
def mvOk (L : List (List Pt)) (x y : Int) : Bool := L.all fun r => mpOk r x y
theorem mvL_snoc (L : List (List Pt)) (r : List Pt) (x y : Int) : mvL (L ++ [r]) x y = mvL L x y ++ [mvs r x y] := by simp [mvL]
theorem mvL_len (L : List (List Pt)) (x y : Int) : (mvL L x y).length = L.length := List.length_map _
theorem mvL_total (L : List (List Pt)) (x y : Int) : total (mvL L x y) = total L := by
  simp only [total, mvL, List.map_map]; congr 1
  exact List.map_congr_left fun r _ => mvs_len r x y
theorem mvOk_bad {L : List (List Pt)} {i : Int} {r : List Pt} {x y : Int} (h : L[i.toNat]? = some r) (h0 : 0 ≤ i) (hr : mpOk r x y = false) : mvOk L x y = false := all_bad (p := fun r => mpOk r x y) h hr
theorem mvOk_snoc (L : List (List Pt)) (r : List Pt) (x y : Int) : mvOk (L ++ [r]) x y = (mvOk L x y && mpOk r x y) := by simp [mvOk]
def spMvL_A : (List (List Pt)) × Int × Int → List AV
  | (L, x, y) => [.c (.sl false (L.map lptC)), I x, I y]
def spMvL_pre : (List (List Pt)) × Int × Int → Prop
  | (L, x, y) => L.length ≤ 1000000 ∧ total L ≤ 1000000
def spMvL_post : (List (List Pt)) × Int × Int → AV → List Box → Prop
  | (L, x, y), r, bs => r = .tup [.c (.sl false (((if mvOk L x y = true then mvL L x y else [])).map lptC)), B (mvOk L x y)] ∧ bs = []
def spMvL : VE.Spec := famSpecS spMvL_A d_llpt_i_i spMvL_pre spMvL_post 0 false
theorem spMvL_q : spMvL.flat = false ∧ spMvL.mt = [] ∧ spMvL.shut = true ∧ spMvL.cost = 0 ∧ (∀ a i, spMvL.pre a i = (i = [] ∧ famPre d_llpt_i_i spMvL_A spMvL_pre a)) ∧ ∀ a i r b, spMvL.post a i r b = (famPost d_llpt_i_i spMvL_post a r b) := ⟨rfl, rfl, rfl, rfl, fun _ _ => rfl, fun _ _ _ _ => rfl⟩
def tb44 : Nat → Option VE.Spec := tabOf [(87, wkIn spMP)]
theorem tb44_87 : tb44 87 = some (wkIn spMP) := rfl
theorem tb44_ok : TabOK Try.prog rt0 tb44 := (tabOf_cons (by kernel_rfl) sat_impl_MovePoints tabOf_nil)
set_option maxHeartbeats 4000000 in
theorem sat_laws_moved_0 : Sat Try.prog rt0 44 (wkOut spMvL) := by
  refine fn_sat hm ttok (tab := tb44) tb44_ok Try.func44 (c := Try.f44.body.getD .skip) (by kernel_rfl) (ts := [.tmp 6, .tmp 7]) (by kernel_rfl) Try.ntmps44 (sq := fun _ => true) (by kernel_rfl) ?_
  intro args ins pk hpre0 hpk
  obtain ⟨rfl, hpre0⟩ := hpre0
  obtain ⟨⟨L, x, y⟩, rfl, hpre, hdec⟩ := famPre_ex hpre0
  clear hpre0 hdec
  try simp only [spMvL_pre] at hpre
  replace hpk : pk + 0 ≤ pickLimit := hpk
  refine ⟨Nat.le_of_ble_eq_true rfl, ?_⟩
  simp (config := { maxSteps := 1000000 }) only [go_sem, ↓ifP_true, ↓ifP_false, ↓ifP_not, Nat.reduceLT, Nat.reduceAdd, Nat.reduceBEq, Nat.reduceSub, Nat.reduceLeDiff, Nat.reduceEqDiff, Nat.reduceMul, Int.reduceToNat, Int.reduceEq, Int.reduceLT, Int.reduceLE, Int.reduceAdd, Int.reduceSub, Int.reduceMul, reduceCtorEq, cond_true, cond_false, forall_eq', forall_eq, forall_const, implies_true, if_true, if_false, exists_eq_left', exists_eq', exists_eq, ne_eq, Try.f44, tb44_87, spMvL_q, spMvL_A, spMvL_pre, spMvL_post, spMP_q, spMP_A, spMP_pre, spMP_post]
  repeat' (first | apply And.intro | (intro _) | omega | assumption | with_reducible rfl)
  refine loopS (α := (List (List Pt)) × Int) true [3, 4, 5, 6, 7, 8, 9, 10, 11, 12, 13, 14, 15, 16, 17, 18, 19, 20, 21, 22, 23, 24, 25, 26, 27, 28, 29, 30, 31, 32, 33, 34] (fun σ => [gId (σ.get 8)]) (fun σ x => [(8, .c (.own (gId (σ.get 8)) (x.1).length false)), (9, I x.2)]) (fun σ x => [(gId (σ.get 8), some ⟨(x.1).map lptC, 1, 36, true, false⟩)]) (fun (o, i) => 0) (fun σ => (gL lptCd σ (σ.get 8), gI (σ.get 9))) (fun σ τ => [(gId (σ.get 8), gId (τ.get 8))]) (fun (o, i) => 0 ≤ i ∧ i ≤ L.length ∧ mvOk (L.take i.toNat) x y = true ∧ o = mvL (L.take i.toNat) x y) (fun (o, i) => (L.length - i).toNat) ⟨by (simp (config := { maxSteps := 1000000 }) only [go_sem, ↓ifP_true, ↓ifP_false, ↓ifP_not, Nat.reduceLT, Nat.reduceAdd, Nat.reduceBEq, Nat.reduceSub, Nat.reduceLeDiff, Nat.reduceEqDiff, Nat.reduceMul, Int.reduceToNat, Int.reduceEq, Int.reduceLT, Int.reduceLE, Int.reduceAdd, Int.reduceSub, Int.reduceMul, reduceCtorEq, cond_true, cond_false, forall_eq', forall_eq, forall_const, implies_true, if_true, if_false, exists_eq_left', exists_eq', exists_eq, ne_eq, Try.f44, tb44_87, spMvL_q, spMvL_A, spMvL_pre, spMvL_post, spMP_q, spMP_A, spMP_pre, spMP_post]; (repeat' (first | apply And.intro | (intro _) | omega | assumption | with_reducible rfl)); all_goals (first | rfl)), ?_⟩
  rintro ⟨o, i⟩ hinv
  try dsimp only at hinv
  rcases elemAt L i (by omega) with ⟨hlt, r, hk⟩ | hlt
  all_goals (first | ((have hlt2 := of_eq_true hlt); (have hT := total_mem hk); all_goals simp (config := { maxSteps := 1000000 }) only [go_sem, ↓ifP_true, ↓ifP_false, ↓ifP_not, Nat.reduceLT, Nat.reduceAdd, Nat.reduceBEq, Nat.reduceSub, Nat.reduceLeDiff, Nat.reduceEqDiff, Nat.reduceMul, Int.reduceToNat, Int.reduceEq, Int.reduceLT, Int.reduceLE, Int.reduceAdd, Int.reduceSub, Int.reduceMul, reduceCtorEq, cond_true, cond_false, forall_eq', forall_eq, forall_const, implies_true, if_true, if_false, exists_eq_left', exists_eq', exists_eq, ne_eq, Try.f44, tb44_87, spMvL_q, spMvL_A, spMvL_pre, spMvL_post, spMP_q, spMP_A, spMP_pre, spMP_post, hlt, hk]) | (have hlt2 := of_eq_false hlt; simp (config := { maxSteps := 1000000 }) only [go_sem, ↓ifP_true, ↓ifP_false, ↓ifP_not, Nat.reduceLT, Nat.reduceAdd, Nat.reduceBEq, Nat.reduceSub, Nat.reduceLeDiff, Nat.reduceEqDiff, Nat.reduceMul, Int.reduceToNat, Int.reduceEq, Int.reduceLT, Int.reduceLE, Int.reduceAdd, Int.reduceSub, Int.reduceMul, reduceCtorEq, cond_true, cond_false, forall_eq', forall_eq, forall_const, implies_true, if_true, if_false, exists_eq_left', exists_eq', exists_eq, ne_eq, Try.f44, tb44_87, spMvL_q, spMvL_A, spMvL_pre, spMvL_post, spMP_q, spMP_A, spMP_pre, spMP_post, hlt]))
  all_goals
    repeat' (first | apply And.intro | (intro _) | omega | assumption | with_reducible rfl)
  all_goals (first | ((have := mvL_len (L.take i.toNat) x y; rw [← hinv.2.2.2, List.length_take] at this; omega); done) | ((rw [takeN hk hinv.1, mvOk_snoc, hinv.2.2.1]; simp [*]); done) | ((rw [takeN hk hinv.1, mvL_snoc, if_pos ‹_›, hinv.2.2.2]); done) | ((rw [mvOk_bad hk hinv.1 ‹_›]; rfl); done) | ((rw [mvOk_bad hk hinv.1 ‹_›]); done) | ((have e := hinv.2.2; rw [takeA (by omega)] at e; rw [if_pos e.1, e.2]); done) | ((have e := hinv.2.2; rw [takeA (by omega)] at e; rw [e.1]); done))
theorem sat_laws_moved : Sat Try.prog rt0 44 (wkIn spMvL) := sat_in (sat_out sat_laws_moved_0)
end Go.Proofs.Ytjjmjidchehffaa
end
