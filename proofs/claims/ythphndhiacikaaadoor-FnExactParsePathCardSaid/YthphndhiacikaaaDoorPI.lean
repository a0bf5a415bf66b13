/- Contracts of functions of the program vectorraster, each proved for all states that fit its description. No conditions. -/
import Derived.Test.YthphndhiacikaaaDoorPG
import Derived.Test.YthphndhiacikaaaDoorKK
set_option linter.unusedSimpArgs false
set_option linter.unusedVariables false
section
set_option maxRecDepth 100000
set_option linter.unusedSimpArgs false
set_option linter.unusedVariables false
namespace Go.Proofs.YthphndhiacikaaaDoor
open Go Go.VE
theorem nil_of {l : List Pt} {b : Bool} (h : ¬ List.map ptC l = [] → b = false) (hb : b = true) : l = [] := by
  by_cases e : List.map ptC l = []
  · exact List.map_eq_nil_iff.1 e
  · rw [h e] at hb; cases hb
def spClone_A : (List Pt) → List AV
  | l => [.c (.sl false (l.map ptC))]
def spClone_pre : (List Pt) → Prop
  | l => l.length ≤ 1000000000
def spClone_post : (List Pt) → AV → List Box → Prop
  | l, r, bs => r = .c (.own 0 (l).length false) ∧ bs = [⟨(l).map ptC, 2, 47, true, false⟩]
def spClone : VE.Spec := famSpec spClone_A d_lpt spClone_pre spClone_post 0 false
theorem spClone_q : spClone.flat = false ∧ spClone.mt = [] ∧ spClone.shut = false ∧ spClone.cost = 0 ∧ (∀ a i, spClone.pre a i = (i = [] ∧ famPre d_lpt spClone_A spClone_pre a)) ∧ ∀ a i r b, spClone.post a i r b = (famPost d_lpt spClone_post a r b) := ⟨rfl, rfl, rfl, rfl, fun _ _ => rfl, fun _ _ _ _ => rfl⟩
def tb63 : Nat → Option VE.Spec := tabOf []
theorem tb63_ok : TabOK Tryd.prog rt0 tb63 := tabOf_nil
set_option maxHeartbeats 4000000 in
theorem sat_slices_Clone_impl_Point_impl_Point_0 : Sat Tryd.prog rt0 63 (wkOut spClone) := by
  refine fn_sat hm ttok (tab := tb63) tb63_ok Tryd.func63 (c := Tryd.f63.body.getD .skip) (by kernel_rfl) (ts := [.tmp 2]) (by kernel_rfl) Tryd.ntmps63 (sq := fun _ => true) (by kernel_rfl) ?_
  intro args ins pk hpre0 hpk
  obtain ⟨rfl, hpre0⟩ := hpre0
  obtain ⟨l, rfl, hpre, hdec⟩ := famPre_ex hpre0
  clear hpre0 hdec
  try simp only [spClone_pre] at hpre
  replace hpk : pk + 0 ≤ pickLimit := hpk
  refine ⟨Nat.le_of_ble_eq_true rfl, ?_⟩
  simp (config := { maxSteps := 1000000 }) only [go_sem, ↓ifP_true, ↓ifP_false, ↓ifP_not, Nat.reduceLT, Nat.reduceAdd, Nat.reduceBEq, Nat.reduceSub, Nat.reduceLeDiff, Nat.reduceEqDiff, Nat.reduceMul, Int.reduceToNat, Int.reduceEq, Int.reduceLT, Int.reduceLE, Int.reduceAdd, Int.reduceSub, Int.reduceMul, reduceCtorEq, cond_true, cond_false, forall_eq', forall_eq, forall_const, implies_true, if_true, if_false, exists_eq_left', exists_eq', exists_eq, ne_eq, Tryd.f63, spClone_q, spClone_A, spClone_pre, spClone_post]
  repeat' (first | apply And.intro | (intro _) | omega | assumption | with_reducible rfl)
  all_goals (first | ((obtain rfl := nil_of (l := l) ‹_› ‹_›; rfl); done))
theorem sat_slices_Clone_impl_Point_impl_Point : Sat Tryd.prog rt0 63 (wkIn spClone) := sat_in (sat_out sat_slices_Clone_impl_Point_impl_Point_0)
def spClip_A : List Pt → List AV := fun l => [.c (.own 0 l.length false)]
def spClip_B : List Pt → List Box := fun l => [⟨l.map ptC, 2, 47, true, false⟩]
def spClip_d : List AV → List Box → Option (List Pt)
  | [.c (.own 0 _ false)], [⟨es, _, _, _, _⟩] => decAll ptCd es
  | _, _ => none
def spClip_pre : List Pt → Prop := fun l => l.length ≤ 1000000000
def spClip_post : List Pt → AV → List Box → Prop := fun l r bs => r = .c (.own 0 (l).length false) ∧ bs = [⟨(l).map ptC, 2, 47, true, false⟩]
def spClip : VE.Spec := famSpecM spClip_A spClip_B spClip_d spClip_pre spClip_post 0 false [true] false
theorem spClip_q : spClip.flat = false ∧ spClip.mt = [true] ∧ spClip.shut = false ∧ spClip.cost = 0 ∧ (∀ a i, spClip.pre a i = (famPreM spClip_d spClip_A spClip_B spClip_pre a i)) ∧ ∀ a i r b, spClip.post a i r b = (famPostM spClip_d spClip_post a i r b) := ⟨rfl, rfl, rfl, rfl, fun _ _ => rfl, fun _ _ _ _ => rfl⟩
def tb62 : Nat → Option VE.Spec := tabOf []
theorem tb62_ok : TabOK Tryd.prog rt0 tb62 := tabOf_nil
set_option maxHeartbeats 4000000 in
theorem sat_slices_Clip_impl_Point_impl_Point_0 : Sat Tryd.prog rt0 62 (wkOut spClip) := by
  refine fn_sat hm ttok (tab := tb62) tb62_ok Tryd.func62 (c := Tryd.f62.body.getD .skip) (by kernel_rfl) (ts := [.tmp 2]) (by kernel_rfl) Tryd.ntmps62 (sq := fun _ => true) (by kernel_rfl) ?_
  intro args ins pk hpre0 hpk
  obtain ⟨l, rfl, rfl, hpre, hdec⟩ := famPreM_ex hpre0
  clear hpre0 hdec
  try simp only [spClip_pre] at hpre
  replace hpk : pk + 0 ≤ pickLimit := hpk
  refine ⟨Nat.le_of_ble_eq_true rfl, ?_⟩
  simp (config := { maxSteps := 1000000 }) only [go_sem, ↓ifP_true, ↓ifP_false, ↓ifP_not, Nat.reduceLT, Nat.reduceAdd, Nat.reduceBEq, Nat.reduceSub, Nat.reduceLeDiff, Nat.reduceEqDiff, Nat.reduceMul, Int.reduceToNat, Int.reduceEq, Int.reduceLT, Int.reduceLE, Int.reduceAdd, Int.reduceSub, Int.reduceMul, reduceCtorEq, cond_true, cond_false, forall_eq', forall_eq, forall_const, implies_true, if_true, if_false, exists_eq_left', exists_eq', exists_eq, ne_eq, Tryd.f62, spClip_q, spClip_A, spClip_B, spClip_d, spClip_pre, spClip_post]
  repeat' (first | apply And.intro | (intro _) | omega | assumption | with_reducible rfl)
  all_goals (first | (omega; done))
theorem sat_slices_Clip_impl_Point_impl_Point : Sat Tryd.prog rt0 62 (wkIn spClip) := sat_in (sat_out sat_slices_Clip_impl_Point_impl_Point_0)
def tb33 : Nat → Option VE.Spec := tabOf [(63, wkIn spClone), (62, wkIn spClip)]
theorem tb33_63 : tb33 63 = some (wkIn spClone) := rfl
theorem tb33_62 : tb33 62 = some (wkIn spClip) := rfl
theorem tb33_ok : TabOK Tryd.prog rt0 tb33 := (tabOf_cons (by kernel_rfl) sat_slices_Clone_impl_Point_impl_Point (tabOf_cons (by kernel_rfl) sat_slices_Clip_impl_Point_impl_Point tabOf_nil))
set_option maxHeartbeats 4000000 in
theorem sat_impl_clone_impl_Point_0 : Sat Tryd.prog rt0 33 (wkOut spClone) := by
  refine fn_sat hm ttok (tab := tb33) tb33_ok Tryd.func33 (c := Tryd.f33.body.getD .skip) (by kernel_rfl) (ts := [.tmp 2]) (by kernel_rfl) Tryd.ntmps33 (sq := fun _ => true) (by kernel_rfl) ?_
  intro args ins pk hpre0 hpk
  obtain ⟨rfl, hpre0⟩ := hpre0
  obtain ⟨l, rfl, hpre, hdec⟩ := famPre_ex hpre0
  clear hpre0 hdec
  try simp only [spClone_pre] at hpre
  replace hpk : pk + 0 ≤ pickLimit := hpk
  refine ⟨Nat.le_of_ble_eq_true rfl, ?_⟩
  simp (config := { maxSteps := 1000000 }) only [go_sem, ↓ifP_true, ↓ifP_false, ↓ifP_not, Nat.reduceLT, Nat.reduceAdd, Nat.reduceBEq, Nat.reduceSub, Nat.reduceLeDiff, Nat.reduceEqDiff, Nat.reduceMul, Int.reduceToNat, Int.reduceEq, Int.reduceLT, Int.reduceLE, Int.reduceAdd, Int.reduceSub, Int.reduceMul, reduceCtorEq, cond_true, cond_false, forall_eq', forall_eq, forall_const, implies_true, if_true, if_false, exists_eq_left', exists_eq', exists_eq, ne_eq, Tryd.f33, tb33_63, tb33_62, spClone_q, spClone_A, spClone_pre, spClone_post, spClip_q, spClip_A, spClip_B, spClip_d, spClip_pre, spClip_post]
  repeat' (first | apply And.intro | (intro _) | omega | assumption | with_reducible rfl)
  all_goals (first | (omega; done))
theorem sat_impl_clone_impl_Point : Sat Tryd.prog rt0 33 (wkIn spClone) := sat_in (sat_out sat_impl_clone_impl_Point_0)
def mv (x y : Int) (p : Pt) : Pt := ⟨p.x + x, p.y + y⟩
def mvs (l : List Pt) (x y : Int) : List Pt := l.map (mv x y)
theorem pt_set (o : List Pt) (n : Nat) (a b : Int) : (List.map ptC o).set n [.v (.int .i64 a), .v (.int .i64 b)] = List.map ptC (o.set n ⟨a, b⟩) := by rw [List.map_set]; rfl
theorem set_same {α : Type} {o : List α} {n : Nat} {p : α} (h : o[n]? = some p) (q : α) : (o.set n q)[n]? = some q := by
  rw [List.getElem?_set_self (List.getElem?_eq_some_iff.1 h).1]
theorem mvs_at {l o : List Pt} {x y i : Int} {p : Pt} (ho : o = mvs (l.take i.toNat) x y ++ l.drop i.toNat) (h0 : 0 ≤ i) (hi : i < l.length) (hp : o[i.toNat]? = some p) : l[i.toNat]? = some p := by
  rw [ho, List.getElem?_append_right (by simp [mvs]; omega), List.getElem?_drop] at hp
  rw [← hp]; congr 1; simp [mvs]; omega
theorem mvs_step {l o : List Pt} {x y i : Int} {p : Pt} (ho : o = mvs (l.take i.toNat) x y ++ l.drop i.toNat) (h0 : 0 ≤ i) (hp : l[i.toNat]? = some p) : o.set i.toNat ⟨p.x + x, p.y + y⟩ = mvs (l.take (i + 1).toNat) x y ++ l.drop (i + 1).toNat := by
  have hl := (List.getElem?_eq_some_iff.1 hp).1
  rw [ho, dropN hp h0, takeN hp h0, List.set_append_right _ _ (by simp [mvs]; omega)]
  have e : i.toNat - (mvs (l.take i.toNat) x y).length = 0 := by simp [mvs]; omega
  rw [e]
  simp [mvs, mv]
def spMvd_A : (List Pt) × Int × Int → List AV
  | (l, x, y) => [.c (.sl false (l.map ptC)), I x, I y]
def spMvd_pre : (List Pt) × Int × Int → Prop
  | (l, x, y) => l.length ≤ 1000000 ∧ okL l ∧ (-3000 ≤ x ∧ x ≤ 3000) ∧ -3000 ≤ y ∧ y ≤ 3000
def spMvd_post : (List Pt) × Int × Int → AV → List Box → Prop
  | (l, x, y), r, bs => r = .c (.own 0 (mvs l x y).length false) ∧ bs = [⟨(mvs l x y).map ptC, 2, 47, true, false⟩]
def spMvd : VE.Spec := famSpec spMvd_A d_lpt_i_i spMvd_pre spMvd_post 0 true
theorem spMvd_q : spMvd.flat = true ∧ spMvd.mt = [] ∧ spMvd.shut = false ∧ spMvd.cost = 0 ∧ (∀ a i, spMvd.pre a i = (i = [] ∧ famPre d_lpt_i_i spMvd_A spMvd_pre a)) ∧ ∀ a i r b, spMvd.post a i r b = (famPost d_lpt_i_i spMvd_post a r b) := ⟨rfl, rfl, rfl, rfl, fun _ _ => rfl, fun _ _ _ _ => rfl⟩
end Go.Proofs.YthphndhiacikaaaDoor
end
section
set_option maxRecDepth 100000
set_option linter.unusedSimpArgs false
set_option linter.unusedVariables false
namespace Go.Proofs.YthphndhiacikaaaDoor
open Go Go.VE
theorem mvs_len (l : List Pt) (x y : Int) : (mvs l x y).length = l.length := List.length_map _
def mpOk (l : List Pt) (x y : Int) : Bool := vPts l && isU x && isU y && vPts (mvs l x y)
def spMP_A : (List Pt) × Int × Int → List AV
  | (l, x, y) => [.c (.sl false (l.map ptC)), I x, I y]
def spMP_pre : (List Pt) × Int × Int → Prop
  | (l, x, y) => l.length ≤ 1000000
def spMP_post : (List Pt) × Int × Int → AV → List Box → Prop
  | (l, x, y), r, bs => r = .tup [.c (.sl false (((if mpOk l x y = true then mvs l x y else [])).map ptC)), B (mpOk l x y)] ∧ bs = []
def spMP : VE.Spec := famSpecS spMP_A d_lpt_i_i spMP_pre spMP_post 0 false
theorem spMP_q : spMP.flat = false ∧ spMP.mt = [] ∧ spMP.shut = true ∧ spMP.cost = 0 ∧ (∀ a i, spMP.pre a i = (i = [] ∧ famPre d_lpt_i_i spMP_A spMP_pre a)) ∧ ∀ a i r b, spMP.post a i r b = (famPost d_lpt_i_i spMP_post a r b) := ⟨rfl, rfl, rfl, rfl, fun _ _ => rfl, fun _ _ _ _ => rfl⟩
def mvL (L : List (List Pt)) (x y : Int) : List (List Pt) := L.map fun r => mvs r x y
def mvOk (L : List (List Pt)) (x y : Int) : Bool := L.all fun r => mpOk r x y
theorem mvL_snoc (L : List (List Pt)) (r : List Pt) (x y : Int) : mvL (L ++ [r]) x y = mvL L x y ++ [mvs r x y] := by simp [mvL]
theorem mvL_len (L : List (List Pt)) (x y : Int) : (mvL L x y).length = L.length := List.length_map _
theorem mvL_total (L : List (List Pt)) (x y : Int) : total (mvL L x y) = total L := by
  simp only [total, mvL, List.map_map]; congr 1
  exact List.map_congr_left fun r _ => mvs_len r x y
theorem mvOk_bad {L : List (List Pt)} {i : Int} {r : List Pt} {x y : Int} (h : L[i.toNat]? = some r) (h0 : 0 ≤ i) (hr : mpOk r x y = false) : mvOk L x y = false := all_bad (p := fun r => mpOk r x y) h hr
theorem mvOk_snoc (L : List (List Pt)) (r : List Pt) (x y : Int) : mvOk (L ++ [r]) x y = (mvOk L x y && mpOk r x y) := by simp [mvOk]
def spMvL_A : (List (List Pt)) × Int × Int → List AV
  | (L, x, y) => [.c (.sl false (L.map lptC)), I x, I y]
def spMvL_pre : (List (List Pt)) × Int × Int → Prop
  | (L, x, y) => L.length ≤ 1000000 ∧ total L ≤ 1000000
def spMvL_post : (List (List Pt)) × Int × Int → AV → List Box → Prop
  | (L, x, y), r, bs => r = .tup [.c (.sl false (((if mvOk L x y = true then mvL L x y else [])).map lptC)), B (mvOk L x y)] ∧ bs = []
def spMvL : VE.Spec := famSpecS spMvL_A d_llpt_i_i spMvL_pre spMvL_post 0 false
theorem spMvL_q : spMvL.flat = false ∧ spMvL.mt = [] ∧ spMvL.shut = true ∧ spMvL.cost = 0 ∧ (∀ a i, spMvL.pre a i = (i = [] ∧ famPre d_llpt_i_i spMvL_A spMvL_pre a)) ∧ ∀ a i r b, spMvL.post a i r b = (famPost d_llpt_i_i spMvL_post a r b) := ⟨rfl, rfl, rfl, rfl, fun _ _ => rfl, fun _ _ _ _ => rfl⟩
end Go.Proofs.YthphndhiacikaaaDoor
end
