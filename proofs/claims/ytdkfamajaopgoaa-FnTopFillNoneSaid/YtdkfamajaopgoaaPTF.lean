/- Contracts of functions of the program vectorraster, each proved for all states that fit its description. No conditions. -/
import Derived.Test.YtdkfamajaopgoaaKS
import Derived.Test.YtdkfamajaopgoaaEG
import Derived.Test.YtdkfamajaopgoaaPQ
import Derived.Test.YtdkfamajaopgoaaPF
import Derived.Test.YtdkfamajaopgoaaPR
import Derived.Test.YtdkfamajaopgoaaPP
import Derived.Test.YtdkfamajaopgoaaPH
set_option linter.unusedSimpArgs false
set_option linter.unusedVariables false
section
set_option maxRecDepth 100000
set_option linter.unusedSimpArgs false
set_option linter.unusedVariables false
namespace Go.Proofs.Ytdkfamajaopgoaa
open Go Go.VE
set_option maxHeartbeats 4000000 in
theorem iter_127 : IterOK Try.prog 127 true 7 := by
  refine iter_of (rt := rt0) (tab := tabOf []) ttok tabOf_nil Try.func127 (by kernel_rfl) (r0 := 0) (r1 := 1) (r2 := 2) (r3 := 3) (b0 := 0) (b1 := 1) (L0 := (rOps (Try.f127.body.getD .skip) 0)) (L1 := (rOps (Try.f127.body.getD .skip) 1)) (L2 := (rOps (Try.f127.body.getD .skip) 2)) (L3 := (rOps (Try.f127.body.getD .skip) 3)) (A0 := (rOps (Try.f127.body.getD .skip) 0).take 3) (A2 := (rOps (Try.f127.body.getD .skip) 2).take 2) (A3 := (rOps (Try.f127.body.getD .skip) 3).take 6)
    (o0 := (rOps (Try.f127.body.getD .skip) 0).getD 3 default) (o2 := (rOps (Try.f127.body.getD .skip) 2).getD 2 default) (oy := (rOps (Try.f127.body.getD .skip) 3).getD 6 default) (on := (rOps (Try.f127.body.getD .skip) 3).getD 7 default) (by kernel_rfl) (by kernel_rfl) Try.ntmps127 (by kernel_rfl) (by kernel_rfl) (by kernel_rfl) (by kernel_rfl) ⟨by kernel_rfl, by kernel_rfl, by kernel_rfl⟩ ⟨by kernel_rfl, by kernel_rfl, by kernel_rfl⟩ ⟨by kernel_rfl, by kernel_rfl, #[3, 62], by kernel_rfl⟩ ?_ ?_ ?_ ?_ ?_
  · intro Y t es hl
    unfold maxLen at hl
    simp (config := { maxSteps := 1000000 }) only [go_sem, ↓ifP_true, ↓ifP_false, ↓ifP_not, Nat.reduceLT, Nat.reduceAdd, Nat.reduceBEq, Nat.reduceSub, Nat.reduceLeDiff, Nat.reduceEqDiff, Nat.reduceMul, Int.reduceToNat, Int.reduceEq, Int.reduceLT, Int.reduceLE, Int.reduceAdd, Int.reduceSub, Int.reduceMul, reduceCtorEq, cond_true, cond_false, forall_eq', forall_eq, forall_const, implies_true, if_true, if_false, exists_eq_left', exists_eq', exists_eq, ne_eq, Try.f127, rOps, itSt, itS0, itB, List.take_succ_cons, List.take_zero, Option.getD_some, cond_true, cond_false, List.append_nil, List.nil_append, List.drop_succ_cons, List.drop_zero, List.getD_cons_succ, List.getD_cons_zero, List.append_assoc, List.cons_append]
    all_goals (repeat' (first | apply And.intro | (intro _) | omega | assumption | with_reducible rfl))
    all_goals skip
  · intro Y t es k
    skip
    simp (config := { maxSteps := 1000000 }) only [go_sem, ↓ifP_true, ↓ifP_false, ↓ifP_not, Nat.reduceLT, Nat.reduceAdd, Nat.reduceBEq, Nat.reduceSub, Nat.reduceLeDiff, Nat.reduceEqDiff, Nat.reduceMul, Int.reduceToNat, Int.reduceEq, Int.reduceLT, Int.reduceLE, Int.reduceAdd, Int.reduceSub, Int.reduceMul, reduceCtorEq, cond_true, cond_false, forall_eq', forall_eq, forall_const, implies_true, if_true, if_false, exists_eq_left', exists_eq', exists_eq, ne_eq, Try.f127, rOps, itSt, itS0, itB, List.take_succ_cons, List.take_zero, Option.getD_some, cond_true, cond_false, List.append_nil, List.nil_append, List.drop_succ_cons, List.drop_zero, List.getD_cons_succ, List.getD_cons_zero, List.append_assoc, List.cons_append]
    all_goals (repeat' (first | apply And.intro | (intro _) | omega | assumption | with_reducible rfl))
    all_goals skip
  · intro k b h0 h1
    unfold maxLen at h1
    simp (config := { maxSteps := 1000000 }) only [go_sem, ↓ifP_true, ↓ifP_false, ↓ifP_not, Nat.reduceLT, Nat.reduceAdd, Nat.reduceBEq, Nat.reduceSub, Nat.reduceLeDiff, Nat.reduceEqDiff, Nat.reduceMul, Int.reduceToNat, Int.reduceEq, Int.reduceLT, Int.reduceLE, Int.reduceAdd, Int.reduceSub, Int.reduceMul, reduceCtorEq, cond_true, cond_false, forall_eq', forall_eq, forall_const, implies_true, if_true, if_false, exists_eq_left', exists_eq', exists_eq, ne_eq, Try.f127, rOps, itSt, itS0, itB, List.take_succ_cons, List.take_zero, Option.getD_some, cond_true, cond_false, List.append_nil, List.nil_append, List.drop_succ_cons, List.drop_zero, List.getD_cons_succ, List.getD_cons_zero, List.append_assoc, List.cons_append]
    all_goals (repeat' (first | apply And.intro | (intro _) | omega | assumption | with_reducible rfl))
    all_goals skip
  · intro Y t es k e hk hl
    (have hkl := (List.getElem?_eq_some_iff.1 hk).1; have hke := hl e (List.mem_of_getElem? hk))
    simp (config := { maxSteps := 1000000 }) only [go_sem, ↓ifP_true, ↓ifP_false, ↓ifP_not, Nat.reduceLT, Nat.reduceAdd, Nat.reduceBEq, Nat.reduceSub, Nat.reduceLeDiff, Nat.reduceEqDiff, Nat.reduceMul, Int.reduceToNat, Int.reduceEq, Int.reduceLT, Int.reduceLE, Int.reduceAdd, Int.reduceSub, Int.reduceMul, reduceCtorEq, cond_true, cond_false, forall_eq', forall_eq, forall_const, implies_true, if_true, if_false, exists_eq_left', exists_eq', exists_eq, ne_eq, Try.f127, rOps, itSt, itS0, itB, List.take_succ_cons, List.take_zero, Option.getD_some, cond_true, cond_false, List.append_nil, List.nil_append, List.drop_succ_cons, List.drop_zero, List.getD_cons_succ, List.getD_cons_zero, List.append_assoc, List.cons_append]
    all_goals (repeat' (first | apply And.intro | (intro _) | omega | assumption | with_reducible rfl))
    all_goals (first | omega | exact hl _ (by assumption) | (rename_i h9; have h8 := Option.some.inj (hk.symm.trans h9); subst h8; first | omega | exact List.take_of_length_le (by omega)))
  · intro k b
    skip
    simp (config := { maxSteps := 1000000 }) only [go_sem, ↓ifP_true, ↓ifP_false, ↓ifP_not, Nat.reduceLT, Nat.reduceAdd, Nat.reduceBEq, Nat.reduceSub, Nat.reduceLeDiff, Nat.reduceEqDiff, Nat.reduceMul, Int.reduceToNat, Int.reduceEq, Int.reduceLT, Int.reduceLE, Int.reduceAdd, Int.reduceSub, Int.reduceMul, reduceCtorEq, cond_true, cond_false, forall_eq', forall_eq, forall_const, implies_true, if_true, if_false, exists_eq_left', exists_eq', exists_eq, ne_eq, Try.f127, rOps, itSt, itS0, itB, List.take_succ_cons, List.take_zero, Option.getD_some, cond_true, cond_false, List.append_nil, List.nil_append, List.drop_succ_cons, List.drop_zero, List.getD_cons_succ, List.getD_cons_zero, List.append_assoc, List.cons_append]
    all_goals (repeat' (first | apply And.intro | (intro _) | omega | assumption | with_reducible rfl))
    all_goals skip
def spBkF_A : (List Fil) → List AV
  | l => [.c (.sl false (l.map flC))]
def spBkF_pre : (List Fil) → Prop
  | l => l.length ≤ 1000000
def spBkF_post : (List Fil) → AV → List Box → Prop
  | l, r, bs => r = .c (.fn 127 [.rp [.sl false (l.map flC)]]) ∧ bs = []
def spBkF : VE.Spec := famSpecS spBkF_A d_lfl spBkF_pre spBkF_post 0 false
theorem spBkF_q : spBkF.flat = false ∧ spBkF.mt = [] ∧ spBkF.shut = true ∧ spBkF.cost = 0 ∧ (∀ a i, spBkF.pre a i = (i = [] ∧ famPre d_lfl spBkF_A spBkF_pre a)) ∧ ∀ a i r b, spBkF.post a i r b = (famPost d_lfl spBkF_post a r b) := ⟨rfl, rfl, rfl, rfl, fun _ _ => rfl, fun _ _ _ _ => rfl⟩
def tb95 : Nat → Option VE.Spec := tabOf []
theorem tb95_ok : TabOK Try.prog rt0 tb95 := tabOf_nil
set_option maxHeartbeats 4000000 in
theorem sat_slices_Backward_impl_Fill_impl_Fill_0 : Sat Try.prog rt0 95 (wkOut spBkF) := by
  refine fn_sat hm ttok (tab := tb95) tb95_ok Try.func95 (c := Try.f95.body.getD .skip) (by kernel_rfl) (ts := [.tmp 2]) (by kernel_rfl) Try.ntmps95 (sq := fun _ => true) (by kernel_rfl) ?_
  intro args ins pk hpre0 hpk
  obtain ⟨rfl, hpre0⟩ := hpre0
  obtain ⟨l, rfl, hpre, hdec⟩ := famPre_ex hpre0
  clear hpre0 hdec
  try simp only [spBkF_pre] at hpre
  replace hpk : pk + 0 ≤ pickLimit := hpk
  refine ⟨Nat.le_of_ble_eq_true rfl, ?_⟩
  simp (config := { maxSteps := 1000000 }) only [go_sem, ↓ifP_true, ↓ifP_false, ↓ifP_not, Nat.reduceLT, Nat.reduceAdd, Nat.reduceBEq, Nat.reduceSub, Nat.reduceLeDiff, Nat.reduceEqDiff, Nat.reduceMul, Int.reduceToNat, Int.reduceEq, Int.reduceLT, Int.reduceLE, Int.reduceAdd, Int.reduceSub, Int.reduceMul, reduceCtorEq, cond_true, cond_false, forall_eq', forall_eq, forall_const, implies_true, if_true, if_false, exists_eq_left', exists_eq', exists_eq, ne_eq, Try.f95, spBkF_q, spBkF_A, spBkF_pre, spBkF_post]
  repeat' (first | apply And.intro | (intro _) | omega | assumption | with_reducible rfl)
  all_goals (first | ((simp_all; done); done))
theorem sat_slices_Backward_impl_Fill_impl_Fill : Sat Try.prog rt0 95 (wkIn spBkF) := sat_in (sat_out sat_slices_Backward_impl_Fill_impl_Fill_0)
end Go.Proofs.Ytdkfamajaopgoaa
end
section
set_option maxRecDepth 100000
set_option linter.unusedSimpArgs false
set_option linter.unusedVariables false
namespace Go.Proofs.Ytdkfamajaopgoaa
open Go Go.VE
def insF (f : Fil) (x y : Int) : Bool := insN (wind (ringsOf f.p) x y) f.rl
/-- The last of the first n fills that has the point. -/
def topN (fs : List Fil) (x y : Int) : Nat → Int
  | 0 => -1
  | n + 1 => match fs[n]? with
    | some f => if insF f x y = true then n else topN fs x y n
    | none => topN fs x y n
def topF (s : Scn) (p : Pt) : Int := if (vScn s && vPt p) = true then topN s.fs p.x p.y s.fs.length else -1
theorem topN_yes {fs : List Fil} {x y : Int} {n : Nat} {f : Fil} (h : fs[n]? = some f) (hi : insF f x y = true) : topN fs x y (n + 1) = n := by
  simp only [topN, h, hi, if_true]
theorem topN_no {fs : List Fil} {x y : Int} {n : Nat} {f : Fil} (h : fs[n]? = some f) (hi : insF f x y = false) : topN fs x y (n + 1) = topN fs x y n := by
  simp only [topN, h, hi]; rfl
theorem topF_in {s : Scn} {p : Pt} (h : vScn s = true) (h2 : (!vPt p) = false) : topF s p = topN s.fs p.x p.y s.fs.length := by
  rw [topF, if_pos]; simp only [Bool.and_eq_true]; exact ⟨h, by simpa using h2⟩
theorem topF_in2 {s : Scn} {p : Pt} (h : vScn s = true) (h2 : vPt p = true) : topF s p = topN s.fs p.x p.y s.fs.length := topF_in h (by simpa using h2)
theorem topF_no1 {s : Scn} {p : Pt} (h : vScn s = false) : topF s p = -1 := by rw [topF, if_neg]; simp [h]
theorem topF_no2 {s : Scn} {p : Pt} (h : vPt p = false) : topF s p = -1 := by rw [topF, if_neg]; simp [h]
theorem vScn_at {s : Scn} {n : Nat} {f : Fil} (h : vScn s = true) (hf : s.fs[n]? = some f) : vFil f = true := by
  simp only [vScn, Bool.and_eq_true, List.all_eq_true] at h
  exact h.2 f (List.mem_of_getElem? hf)
theorem vFil_path {f : Fil} (h : vFil f = true) : vPath f.p = true ∧ vRings (ringsOf f.p) = true ∧ isRl f.rl = true := by
  simp only [vFil, Bool.and_eq_true] at h
  exact ⟨h.1.1.1, h.1.1.2, h.1.2⟩
theorem vPt_xy {p : Pt} (h : vPt p = true) : (-1000 ≤ p.x ∧ p.x ≤ 1000) ∧ -1000 ≤ p.y ∧ p.y ≤ 1000 := by
  simp only [vPt, isU, Bool.and_eq_true, decide_eq_true_eq] at h
  exact h
def spTop_A : Scn × Pt → List AV
  | (s, p) => [.agg (scC s), .agg (ptC p)]
def spTop_pre : Scn × Pt → Prop
  | (s, p) => okFs s.fs
def spTop_post : Scn × Pt → AV → List Box → Prop
  | (s, p), r, bs => r = I (topF s p) ∧ bs = []
def spTop : VE.Spec := famSpec spTop_A d_sc_pt spTop_pre spTop_post 0 true
theorem spTop_q : spTop.flat = true ∧ spTop.mt = [] ∧ spTop.shut = false ∧ spTop.cost = 0 ∧ (∀ a i, spTop.pre a i = (i = [] ∧ famPre d_sc_pt spTop_A spTop_pre a)) ∧ ∀ a i r b, spTop.post a i r b = (famPost d_sc_pt spTop_post a r b) := ⟨rfl, rfl, rfl, rfl, fun _ _ => rfl, fun _ _ _ _ => rfl⟩
end Go.Proofs.Ytdkfamajaopgoaa
end
section
set_option maxRecDepth 100000
set_option linter.unusedSimpArgs false
set_option linter.unusedVariables false
namespace Go.Proofs.Ytdkfamajaopgoaa
open Go Go.VE
def tb42 : Nat → Option VE.Spec := tabOf [(29, wkIn spVScn), (94, wkIn spVPt), (95, wkIn spBkF), (48, wkIn spRings), (85, wkIn spWind), (96, wkIn spIns)]
theorem tb42_29 : tb42 29 = some (wkIn spVScn) := rfl
theorem tb42_94 : tb42 94 = some (wkIn spVPt) := rfl
theorem tb42_95 : tb42 95 = some (wkIn spBkF) := rfl
theorem tb42_48 : tb42 48 = some (wkIn spRings) := rfl
theorem tb42_85 : tb42 85 = some (wkIn spWind) := rfl
theorem tb42_96 : tb42 96 = some (wkIn spIns) := rfl
theorem tb42_ok : TabOK Try.prog rt0 tb42 := (tabOf_cons (by kernel_rfl) sat_impl_ValidScene (tabOf_cons (by kernel_rfl) sat_impl_Point_valid (tabOf_cons (by kernel_rfl) sat_slices_Backward_impl_Fill_impl_Fill (tabOf_cons (by kernel_rfl) sat_impl_rings (tabOf_cons (by kernel_rfl) sat_impl_winding (tabOf_cons (by kernel_rfl) sat_impl_inside tabOf_nil))))))
set_option maxHeartbeats 4000000 in
theorem sat_impl_TopFill_0 : Sat Try.prog rt0 42 (wkOut spTop) := by
  refine fn_satR hm ttok (tab := tb42) tb42_ok (it := itOne 127 true 7) (itOne_ok iter_127) Try.func42 (c := Try.f42.body.getD .skip) (by kernel_rfl) (ts := [.cell 4 3]) (by kernel_rfl) Try.ntmps42 (sq := fun id => !(id == 6)) (by kernel_rfl) ?_
  intro args ins pk hpre0 hpk
  obtain ⟨rfl, hpre0⟩ := hpre0
  obtain ⟨⟨s, p⟩, rfl, hpre, hdec⟩ := famPre_ex hpre0
  clear hpre0 hdec
  try simp only [spTop_pre] at hpre
  replace hpk : pk + 0 ≤ pickLimit := hpk
  refine ⟨Nat.le_of_ble_eq_true rfl, ?_⟩
  simp (config := { maxSteps := 1000000 }) only [go_sem, ↓ifP_true, ↓ifP_false, ↓ifP_not, Nat.reduceLT, Nat.reduceAdd, Nat.reduceBEq, Nat.reduceSub, Nat.reduceLeDiff, Nat.reduceEqDiff, Nat.reduceMul, Int.reduceToNat, Int.reduceEq, Int.reduceLT, Int.reduceLE, Int.reduceAdd, Int.reduceSub, Int.reduceMul, reduceCtorEq, cond_true, cond_false, forall_eq', forall_eq, forall_const, implies_true, if_true, if_false, exists_eq_left', exists_eq', exists_eq, ne_eq, Try.f42, tb42_29, tb42_94, tb42_95, tb42_48, tb42_85, tb42_96, spTop_q, spTop_A, spTop_pre, spTop_post, spVScn_q, spVScn_A, spVScn_pre, spVScn_post, spVPt_q, spVPt_A, spVPt_pre, spVPt_post, spBkF_q, spBkF_A, spBkF_pre, spBkF_post, spRings_q, spRings_A, spRings_pre, spRings_post, spWind_q, spWind_A, spWind_pre, spWind_post, spIns_q, spIns_A, spIns_pre, spIns_post]
  repeat' (first | apply And.intro | (intro _) | omega | assumption | with_reducible rfl)
  all_goals try (refine drawI (VE.Plan.first 0 (VE.Plan.first 1 (VE.Plan.first 3 (VE.Plan.first 4 (VE.Plan.first 5 (VE.Plan.first 6 (VE.Plan.first 8 (VE.Plan.first 9 (VE.Plan.alt 2 (VE.Plan.alt 7 (VE.Plan.alt 10 VE.Plan.nil VE.Plan.nil) VE.Plan.nil) VE.Plan.nil))))))))) (by decide +kernel) ?_; simp (config := { maxSteps := 1000000 }) only [go_sem, ↓ifP_true, ↓ifP_false, ↓ifP_not, Nat.reduceLT, Nat.reduceAdd, Nat.reduceBEq, Nat.reduceSub, Nat.reduceLeDiff, Nat.reduceEqDiff, Nat.reduceMul, Int.reduceToNat, Int.reduceEq, Int.reduceLT, Int.reduceLE, Int.reduceAdd, Int.reduceSub, Int.reduceMul, reduceCtorEq, cond_true, cond_false, forall_eq', forall_eq, forall_const, implies_true, if_true, if_false, exists_eq_left', exists_eq', exists_eq, ne_eq, planW, stepW, Try.f42, tb42_29, tb42_94, tb42_95, tb42_48, tb42_85, tb42_96, spTop_q, spTop_A, spTop_pre, spTop_post, spVScn_q, spVScn_A, spVScn_pre, spVScn_post, spVPt_q, spVPt_A, spVPt_pre, spVPt_post, spBkF_q, spBkF_A, spBkF_pre, spBkF_post, spRings_q, spRings_A, spRings_pre, spRings_post, spWind_q, spWind_A, spWind_pre, spWind_post, spIns_q, spIns_A, spIns_pre, spIns_post]; repeat' (first | apply And.intro | (intro _) | omega | assumption | with_reducible rfl))
  all_goals try (exact hpre)
  all_goals try (have h9 := hpre.len; omega)
  any_goals
    refine rfS s.fs flC (α := Unit) true 7 false [5, 6, 7, 8, 9, 10, 11, 12, 13, 14, 15, 16, 17, 18, 19, 20, 21, 22, 23, 24, 25, 26, 27, 28, 29, 30, 31] (fun _ => []) (fun _ _ => []) (fun _ => 0) (fun _ => ()) (fun _ _ => []) (fun n _ => topN s.fs p.x p.y n = topN s.fs p.x p.y s.fs.length) (by rfl) flC_len (by rfl) (by kernel_rfl) (by simp (config := { maxSteps := 1000000 }) only [go_sem, ↓ifP_true, ↓ifP_false, ↓ifP_not, Nat.reduceLT, Nat.reduceAdd, Nat.reduceBEq, Nat.reduceSub, Nat.reduceLeDiff, Nat.reduceEqDiff, Nat.reduceMul, Int.reduceToNat, Int.reduceEq, Int.reduceLT, Int.reduceLE, Int.reduceAdd, Int.reduceSub, Int.reduceMul, reduceCtorEq, cond_true, cond_false, forall_eq', forall_eq, forall_const, implies_true, if_true, if_false, exists_eq_left', exists_eq', exists_eq, ne_eq, Try.f42, tb42_29, tb42_94, tb42_95, tb42_48, tb42_85, tb42_96, spTop_q, spTop_A, spTop_pre, spTop_post, spVScn_q, spVScn_A, spVScn_pre, spVScn_post, spVPt_q, spVPt_A, spVPt_pre, spVPt_post, spBkF_q, spBkF_A, spBkF_pre, spBkF_post, spRings_q, spRings_A, spRings_pre, spRings_post, spWind_q, spWind_A, spWind_pre, spWind_post, spIns_q, spIns_A, spIns_pre, spIns_post]; repeat' (first | apply And.intro | (intro _) | omega | assumption | with_reducible rfl)) ⟨rfl, by simp (config := { maxSteps := 1000000 }) only [go_sem, ↓ifP_true, ↓ifP_false, ↓ifP_not, Nat.reduceLT, Nat.reduceAdd, Nat.reduceBEq, Nat.reduceSub, Nat.reduceLeDiff, Nat.reduceEqDiff, Nat.reduceMul, Int.reduceToNat, Int.reduceEq, Int.reduceLT, Int.reduceLE, Int.reduceAdd, Int.reduceSub, Int.reduceMul, reduceCtorEq, cond_true, cond_false, forall_eq', forall_eq, forall_const, implies_true, if_true, if_false, exists_eq_left', exists_eq', exists_eq, ne_eq, Try.f42, tb42_29, tb42_94, tb42_95, tb42_48, tb42_85, tb42_96, spTop_q, spTop_A, spTop_pre, spTop_post, spVScn_q, spVScn_A, spVScn_pre, spVScn_post, spVPt_q, spVPt_A, spVPt_pre, spVPt_post, spBkF_q, spBkF_A, spBkF_pre, spBkF_post, spRings_q, spRings_A, spRings_pre, spRings_post, spWind_q, spWind_A, spWind_pre, spWind_post, spIns_q, spIns_A, spIns_pre, spIns_post]; repeat' (first | apply And.intro | (intro _) | omega | assumption | with_reducible rfl)⟩ ?_ ?_
    · intro k u f hk hinv
      have hf := vScn_at ‹vScn s = true› hk
      have hq := vFil_path hf
      have hpt := vPt_xy (p := p) (by simpa using ‹(!vPt p) = false›)
      have hT := rings_tot2 hq.1
      have hW := wind_bd hq.2.1 p.x p.y
      simp (config := { maxSteps := 1000000 }) only [go_sem, ↓ifP_true, ↓ifP_false, ↓ifP_not, Nat.reduceLT, Nat.reduceAdd, Nat.reduceBEq, Nat.reduceSub, Nat.reduceLeDiff, Nat.reduceEqDiff, Nat.reduceMul, Int.reduceToNat, Int.reduceEq, Int.reduceLT, Int.reduceLE, Int.reduceAdd, Int.reduceSub, Int.reduceMul, reduceCtorEq, cond_true, cond_false, forall_eq', forall_eq, forall_const, implies_true, if_true, if_false, exists_eq_left', exists_eq', exists_eq, ne_eq, Try.f42, tb42_29, tb42_94, tb42_95, tb42_48, tb42_85, tb42_96, spTop_q, spTop_A, spTop_pre, spTop_post, spVScn_q, spVScn_A, spVScn_pre, spVScn_post, spVPt_q, spVPt_A, spVPt_pre, spVPt_post, spBkF_q, spBkF_A, spBkF_pre, spBkF_post, spRings_q, spRings_A, spRings_pre, spRings_post, spWind_q, spWind_A, spWind_pre, spWind_post, spIns_q, spIns_A, spIns_pre, spIns_post]
      repeat' (first | apply And.intro | (intro _) | omega | assumption | with_reducible rfl)
      all_goals try (refine drawI (VE.Plan.first 0 (VE.Plan.first 1 (VE.Plan.first 3 (VE.Plan.first 4 (VE.Plan.first 5 (VE.Plan.first 6 (VE.Plan.first 8 (VE.Plan.first 9 (VE.Plan.alt 2 (VE.Plan.alt 7 (VE.Plan.alt 10 VE.Plan.nil VE.Plan.nil) VE.Plan.nil) VE.Plan.nil))))))))) (by decide +kernel) ?_; simp (config := { maxSteps := 1000000 }) only [go_sem, ↓ifP_true, ↓ifP_false, ↓ifP_not, Nat.reduceLT, Nat.reduceAdd, Nat.reduceBEq, Nat.reduceSub, Nat.reduceLeDiff, Nat.reduceEqDiff, Nat.reduceMul, Int.reduceToNat, Int.reduceEq, Int.reduceLT, Int.reduceLE, Int.reduceAdd, Int.reduceSub, Int.reduceMul, reduceCtorEq, cond_true, cond_false, forall_eq', forall_eq, forall_const, implies_true, if_true, if_false, exists_eq_left', exists_eq', exists_eq, ne_eq, planW, stepW, Try.f42, tb42_29, tb42_94, tb42_95, tb42_48, tb42_85, tb42_96, spTop_q, spTop_A, spTop_pre, spTop_post, spVScn_q, spVScn_A, spVScn_pre, spVScn_post, spVPt_q, spVPt_A, spVPt_pre, spVPt_post, spBkF_q, spBkF_A, spBkF_pre, spBkF_post, spRings_q, spRings_A, spRings_pre, spRings_post, spWind_q, spWind_A, spWind_pre, spWind_post, spIns_q, spIns_A, spIns_pre, spIns_post]; repeat' (first | apply And.intro | (intro _) | omega | assumption | with_reducible rfl))

      all_goals (first | (exact hq.1; done) | (exact hq.2.1; done) | ((rw [topF_in ‹vScn s = true› ‹(!vPt p) = false›, ← hinv, topN_yes hk ‹_›]); done) | ((rw [← hinv, topN_no hk ‹_›]); done) | ((rw [topF_in ‹vScn s = true› ‹(!vPt p) = false›, ← hinv]; rfl); done))
    · intro u hinv
      simp (config := { maxSteps := 1000000 }) only [go_sem, ↓ifP_true, ↓ifP_false, ↓ifP_not, Nat.reduceLT, Nat.reduceAdd, Nat.reduceBEq, Nat.reduceSub, Nat.reduceLeDiff, Nat.reduceEqDiff, Nat.reduceMul, Int.reduceToNat, Int.reduceEq, Int.reduceLT, Int.reduceLE, Int.reduceAdd, Int.reduceSub, Int.reduceMul, reduceCtorEq, cond_true, cond_false, forall_eq', forall_eq, forall_const, implies_true, if_true, if_false, exists_eq_left', exists_eq', exists_eq, ne_eq, Try.f42, tb42_29, tb42_94, tb42_95, tb42_48, tb42_85, tb42_96, spTop_q, spTop_A, spTop_pre, spTop_post, spVScn_q, spVScn_A, spVScn_pre, spVScn_post, spVPt_q, spVPt_A, spVPt_pre, spVPt_post, spBkF_q, spBkF_A, spBkF_pre, spBkF_post, spRings_q, spRings_A, spRings_pre, spRings_post, spWind_q, spWind_A, spWind_pre, spWind_post, spIns_q, spIns_A, spIns_pre, spIns_post]
      repeat' (first | apply And.intro | (intro _) | omega | assumption | with_reducible rfl)
      all_goals (first | (exact hq.1; done) | (exact hq.2.1; done) | ((rw [topF_in ‹vScn s = true› ‹(!vPt p) = false›, ← hinv, topN_yes hk ‹_›]); done) | ((rw [← hinv, topN_no hk ‹_›]); done) | ((rw [topF_in ‹vScn s = true› ‹(!vPt p) = false›, ← hinv]; rfl); done))
  all_goals (first | (exact (topF_no1 ‹_›).symm; done) | (exact (topF_no2 ‹_›).symm; done))
theorem sat_impl_TopFill : Sat Try.prog rt0 42 (wkIn spTop) := sat_in (sat_out sat_impl_TopFill_0)
end Go.Proofs.Ytdkfamajaopgoaa
end
section
set_option maxRecDepth 100000
set_option linter.unusedSimpArgs false
set_option linter.unusedVariables false
namespace Go.Proofs.Ytdkfamajaopgoaa
open Go Go.VE
def tb43 : Nat → Option VE.Spec := tabOf [(72, wkIn spVScn), (97, wkIn spVPt), (52, wkIn spRings), (99, wkIn spWind), (98, wkIn spIns)]
theorem tb43_72 : tb43 72 = some (wkIn spVScn) := rfl
theorem tb43_97 : tb43 97 = some (wkIn spVPt) := rfl
theorem tb43_52 : tb43 52 = some (wkIn spRings) := rfl
theorem tb43_99 : tb43 99 = some (wkIn spWind) := rfl
theorem tb43_98 : tb43 98 = some (wkIn spIns) := rfl
theorem tb43_ok : TabOK Try.prog rt0 tb43 := (tabOf_cons (by kernel_rfl) sat_spec_validScene (tabOf_cons (by kernel_rfl) sat_spec_validPoint (tabOf_cons (by kernel_rfl) sat_spec_rings (tabOf_cons (by kernel_rfl) sat_spec_winding (tabOf_cons (by kernel_rfl) sat_spec_inside tabOf_nil)))))
set_option maxHeartbeats 4000000 in
theorem sat_spec_TopFill_0 : Sat Try.prog rt0 43 (wkOut spTop) := by
  refine fn_sat hm ttok (tab := tb43) tb43_ok Try.func43 (c := Try.f43.body.getD .skip) (by kernel_rfl) (ts := [.tmp 4]) (by kernel_rfl) Try.ntmps43 (sq := fun id => !(id == 6)) (by kernel_rfl) ?_
  intro args ins pk hpre0 hpk
  obtain ⟨rfl, hpre0⟩ := hpre0
  obtain ⟨⟨s, p⟩, rfl, hpre, hdec⟩ := famPre_ex hpre0
  clear hpre0 hdec
  try simp only [spTop_pre] at hpre
  replace hpk : pk + 0 ≤ pickLimit := hpk
  refine ⟨Nat.le_of_ble_eq_true rfl, ?_⟩
  have hpl := hpre.len
  simp (config := { maxSteps := 1000000 }) only [go_sem, ↓ifP_true, ↓ifP_false, ↓ifP_not, Nat.reduceLT, Nat.reduceAdd, Nat.reduceBEq, Nat.reduceSub, Nat.reduceLeDiff, Nat.reduceEqDiff, Nat.reduceMul, Int.reduceToNat, Int.reduceEq, Int.reduceLT, Int.reduceLE, Int.reduceAdd, Int.reduceSub, Int.reduceMul, reduceCtorEq, cond_true, cond_false, forall_eq', forall_eq, forall_const, implies_true, if_true, if_false, exists_eq_left', exists_eq', exists_eq, ne_eq, Try.f43, tb43_72, tb43_97, tb43_52, tb43_99, tb43_98, spTop_q, spTop_A, spTop_pre, spTop_post, spVScn_q, spVScn_A, spVScn_pre, spVScn_post, spVPt_q, spVPt_A, spVPt_pre, spVPt_post, spRings_q, spRings_A, spRings_pre, spRings_post, spWind_q, spWind_A, spWind_pre, spWind_post, spIns_q, spIns_A, spIns_pre, spIns_post]
  repeat' (first | apply And.intro | (intro _) | omega | assumption | with_reducible rfl)
  all_goals try (refine drawI (VE.Plan.first 0 (VE.Plan.first 1 (VE.Plan.first 2 (VE.Plan.first 3 (VE.Plan.first 4 (VE.Plan.first 5 (VE.Plan.first 7 (VE.Plan.first 8 (VE.Plan.first 9 (VE.Plan.first 10 (VE.Plan.first 12 (VE.Plan.first 13 (VE.Plan.first 14 (VE.Plan.first 15 (VE.Plan.first 16 (VE.Plan.first 17 (VE.Plan.alt 6 (VE.Plan.alt 11 (VE.Plan.alt 18 VE.Plan.nil VE.Plan.nil) VE.Plan.nil) VE.Plan.nil))))))))))))))))) (by decide +kernel) ?_; simp (config := { maxSteps := 1000000 }) only [go_sem, ↓ifP_true, ↓ifP_false, ↓ifP_not, Nat.reduceLT, Nat.reduceAdd, Nat.reduceBEq, Nat.reduceSub, Nat.reduceLeDiff, Nat.reduceEqDiff, Nat.reduceMul, Int.reduceToNat, Int.reduceEq, Int.reduceLT, Int.reduceLE, Int.reduceAdd, Int.reduceSub, Int.reduceMul, reduceCtorEq, cond_true, cond_false, forall_eq', forall_eq, forall_const, implies_true, if_true, if_false, exists_eq_left', exists_eq', exists_eq, ne_eq, planW, stepW, Try.f43, tb43_72, tb43_97, tb43_52, tb43_99, tb43_98, spTop_q, spTop_A, spTop_pre, spTop_post, spVScn_q, spVScn_A, spVScn_pre, spVScn_post, spVPt_q, spVPt_A, spVPt_pre, spVPt_post, spRings_q, spRings_A, spRings_pre, spRings_post, spWind_q, spWind_A, spWind_pre, spWind_post, spIns_q, spIns_A, spIns_pre, spIns_post]; repeat' (first | apply And.intro | (intro _) | omega | assumption | with_reducible rfl))
  all_goals try (exact hpre)
  all_goals try (have h9 := hpre.len; omega)
  any_goals
    refine loopS (α := Int) false [0, 1, 4, 5, 6, 7, 8, 9, 10, 11, 12, 13, 14, 15, 16, 17, 18, 19, 20, 21, 22, 23, 24, 25, 26, 27, 28, 29, 30, 31, 32, 33, 34, 35, 36, 37, 38, 39, 40, 41] (fun σ => []) (fun σ x => [(5, I x)]) (fun σ x => []) (fun i => 0) (fun σ => gI (σ.get 5)) (fun σ τ => []) (fun i => (-1 ≤ i ∧ i < s.fs.length) ∧ topN s.fs p.x p.y (i + 1).toNat = topN s.fs p.x p.y s.fs.length) (fun i => (i + 1).toNat) ⟨by (simp (config := { maxSteps := 1000000 }) only [go_sem, ↓ifP_true, ↓ifP_false, ↓ifP_not, Nat.reduceLT, Nat.reduceAdd, Nat.reduceBEq, Nat.reduceSub, Nat.reduceLeDiff, Nat.reduceEqDiff, Nat.reduceMul, Int.reduceToNat, Int.reduceEq, Int.reduceLT, Int.reduceLE, Int.reduceAdd, Int.reduceSub, Int.reduceMul, reduceCtorEq, cond_true, cond_false, forall_eq', forall_eq, forall_const, implies_true, if_true, if_false, exists_eq_left', exists_eq', exists_eq, ne_eq, Try.f43, tb43_72, tb43_97, tb43_52, tb43_99, tb43_98, spTop_q, spTop_A, spTop_pre, spTop_post, spVScn_q, spVScn_A, spVScn_pre, spVScn_post, spVPt_q, spVPt_A, spVPt_pre, spVPt_post, spRings_q, spRings_A, spRings_pre, spRings_post, spWind_q, spWind_A, spWind_pre, spWind_post, spIns_q, spIns_A, spIns_pre, spIns_post]; (repeat' (first | apply And.intro | (intro _) | omega | assumption | with_reducible rfl)); all_goals (first | omega | (congr 1; omega))), ?_⟩
    rintro i hinv
    try dsimp only at hinv
    simp (config := { maxSteps := 1000000 }) only [go_sem, ↓ifP_true, ↓ifP_false, ↓ifP_not, Nat.reduceLT, Nat.reduceAdd, Nat.reduceBEq, Nat.reduceSub, Nat.reduceLeDiff, Nat.reduceEqDiff, Nat.reduceMul, Int.reduceToNat, Int.reduceEq, Int.reduceLT, Int.reduceLE, Int.reduceAdd, Int.reduceSub, Int.reduceMul, reduceCtorEq, cond_true, cond_false, forall_eq', forall_eq, forall_const, implies_true, if_true, if_false, exists_eq_left', exists_eq', exists_eq, ne_eq, Try.f43, tb43_72, tb43_97, tb43_52, tb43_99, tb43_98, spTop_q, spTop_A, spTop_pre, spTop_post, spVScn_q, spVScn_A, spVScn_pre, spVScn_post, spVPt_q, spVPt_A, spVPt_pre, spVPt_post, spRings_q, spRings_A, spRings_pre, spRings_post, spWind_q, spWind_A, spWind_pre, spWind_post, spIns_q, spIns_A, spIns_pre, spIns_post]
    repeat' (first | apply And.intro | (intro _) | omega | assumption | with_reducible rfl)
    all_goals try (refine drawI (VE.Plan.first 0 (VE.Plan.first 1 (VE.Plan.first 2 (VE.Plan.first 3 (VE.Plan.first 4 (VE.Plan.first 5 (VE.Plan.first 7 (VE.Plan.first 8 (VE.Plan.first 9 (VE.Plan.first 10 (VE.Plan.first 12 (VE.Plan.first 13 (VE.Plan.first 14 (VE.Plan.first 15 (VE.Plan.first 16 (VE.Plan.first 17 (VE.Plan.alt 6 (VE.Plan.alt 11 (VE.Plan.alt 18 VE.Plan.nil VE.Plan.nil) VE.Plan.nil) VE.Plan.nil))))))))))))))))) (by decide +kernel) ?_; simp (config := { maxSteps := 1000000 }) only [go_sem, ↓ifP_true, ↓ifP_false, ↓ifP_not, Nat.reduceLT, Nat.reduceAdd, Nat.reduceBEq, Nat.reduceSub, Nat.reduceLeDiff, Nat.reduceEqDiff, Nat.reduceMul, Int.reduceToNat, Int.reduceEq, Int.reduceLT, Int.reduceLE, Int.reduceAdd, Int.reduceSub, Int.reduceMul, reduceCtorEq, cond_true, cond_false, forall_eq', forall_eq, forall_const, implies_true, if_true, if_false, exists_eq_left', exists_eq', exists_eq, ne_eq, planW, stepW, Try.f43, tb43_72, tb43_97, tb43_52, tb43_99, tb43_98, spTop_q, spTop_A, spTop_pre, spTop_post, spVScn_q, spVScn_A, spVScn_pre, spVScn_post, spVPt_q, spVPt_A, spVPt_pre, spVPt_post, spRings_q, spRings_A, spRings_pre, spRings_post, spWind_q, spWind_A, spWind_pre, spWind_post, spIns_q, spIns_A, spIns_pre, spIns_post]; repeat' (first | apply And.intro | (intro _) | omega | assumption | with_reducible rfl))
  
  all_goals try (rename_i k1 h1 k2 h2; obtain rfl := Option.some.inj (h1.symm.trans h2); have hf := vScn_at ‹vScn s = true› h1; have hq := vFil_path hf; have hpt := vPt_xy ‹vPt p = true›; have hT := rings_tot2 hq.1; have hW := wind_bd hq.2.1 p.x p.y; first | exact hq.1 | exact hq.2.1 | omega)
  all_goals try (rename_i k1 h1 k2 h2 h3; obtain rfl := Option.some.inj (h1.symm.trans h2); have e1 : (i + 1).toNat = i.toNat + 1 := (by omega); have e2 : (i - 1 + 1).toNat = i.toNat := (by omega); first | omega | (rw [topF_in2 ‹vScn s = true› ‹vPt p = true›, ← hinv.2, e1, topN_yes h1 h3]; omega) | (rw [e2, ← hinv.2, e1, topN_no h1 h3]))
  all_goals try (rw [topF_in2 ‹vScn s = true› ‹vPt p = true›, ← hinv.2, show (i + 1).toNat = 0 by omega]; rfl)
  all_goals (first | (exact (topF_no1 ‹_›).symm; done) | (exact (topF_no2 ‹_›).symm; done) | (omega; done))
theorem sat_spec_TopFill : Sat Try.prog rt0 43 (wkIn spTop) := sat_in (sat_out sat_spec_TopFill_0)
end Go.Proofs.Ytdkfamajaopgoaa
end
section
set_option maxRecDepth 100000
set_option linter.unusedSimpArgs false
set_option linter.unusedVariables false
namespace Go.Proofs.Ytdkfamajaopgoaa
open Go Go.VE
def spDTop_A : (List UInt8) → List AV
  | code => [.c (.sl false (byC code))]
def spDTop_pre : (List UInt8) → Prop
  | code => code.length ≤ 1048576
def spDTop_post : (List UInt8) → AV → List Box → Prop
  | code, r, bs => ∃ (c : Scn) (p : Pt), r = .tup [.agg (scC c), .agg (ptC p)] ∧ bs = [] ∧ okScn c
def spDTop : VE.Spec := famSpecS spDTop_A d_ly spDTop_pre spDTop_post 1320 false
theorem spDTop_q : spDTop.flat = false ∧ spDTop.mt = [] ∧ spDTop.shut = true ∧ spDTop.cost = 1320 ∧ (∀ a i, spDTop.pre a i = (i = [] ∧ famPre d_ly spDTop_A spDTop_pre a)) ∧ ∀ a i r b, spDTop.post a i r b = (famPost d_ly spDTop_post a r b) := ⟨rfl, rfl, rfl, rfl, fun _ _ => rfl, fun _ _ _ _ => rfl⟩
def tb41 : Nat → Option VE.Spec := tabOf [(46, wkIn spNew), (68, wkIn spAScn), (93, wkIn spAnyP)]
theorem tb41_46 : tb41 46 = some (wkIn spNew) := rfl
theorem tb41_68 : tb41 68 = some (wkIn spAScn) := rfl
theorem tb41_93 : tb41 93 = some (wkIn spAnyP) := rfl
theorem tb41_ok : TabOK Try.prog rt0 tb41 := (tabOf_cons (by kernel_rfl) sat_spec_newReader (tabOf_cons (by kernel_rfl) sat_spec_anyScene (tabOf_cons (by kernel_rfl) sat_spec_anyPoint tabOf_nil)))
set_option maxHeartbeats 4000000 in
theorem sat_spec_DrawTopFill_0 : Sat Try.prog rt0 41 (wkOut spDTop) := by
  refine fn_sat hm ttok (tab := tb41) tb41_ok Try.func41 (c := Try.f41.body.getD .skip) (by kernel_rfl) (ts := [.cell 2 43, .cell 3 57]) (by kernel_rfl) Try.ntmps41 (sq := fun _ => true) (by kernel_rfl) ?_
  intro args ins pk hpre0 hpk
  obtain ⟨rfl, hpre0⟩ := hpre0
  obtain ⟨code, rfl, hpre, hdec⟩ := famPre_ex hpre0
  clear hpre0 hdec
  try simp only [spDTop_pre] at hpre
  replace hpk : pk + 1320 ≤ pickLimit := hpk
  refine ⟨Nat.le_of_ble_eq_true rfl, ?_⟩
  simp (config := { maxSteps := 1000000 }) only [go_sem, ↓ifP_true, ↓ifP_false, ↓ifP_not, Nat.reduceLT, Nat.reduceAdd, Nat.reduceBEq, Nat.reduceSub, Nat.reduceLeDiff, Nat.reduceEqDiff, Nat.reduceMul, Int.reduceToNat, Int.reduceEq, Int.reduceLT, Int.reduceLE, Int.reduceAdd, Int.reduceSub, Int.reduceMul, reduceCtorEq, cond_true, cond_false, forall_eq', forall_eq, forall_const, implies_true, if_true, if_false, exists_eq_left', exists_eq', exists_eq, ne_eq, Try.f41, tb41_46, tb41_68, tb41_93, spDTop_q, spDTop_A, spDTop_pre, spDTop_post, spNew_q, spAScn_q, spAScn_A, spAScn_pre, spAScn_post, spAnyP_q, spAnyP_A, spAnyP_pre, spAnyP_post]
  repeat' (first | apply And.intro | (intro _) | omega | assumption | with_reducible rfl)
  all_goals (first | (exact ⟨_, _, rfl, rfl, hpre⟩; done) | (assumption; done) | (trivial; done) | (exact ⟨_, _, rfl, rfl, ‹okScn _›⟩; done))
theorem sat_spec_DrawTopFill : Sat Try.prog rt0 41 (wkIn spDTop) := sat_in (sat_out sat_spec_DrawTopFill_0)
end Go.Proofs.Ytdkfamajaopgoaa
end
section
set_option maxRecDepth 100000
set_option linter.unusedSimpArgs false
set_option linter.unusedVariables false
namespace Go.Proofs.Ytdkfamajaopgoaa
open Go Go.VE
theorem topN_bd (fs : List Fil) (x y : Int) : ∀ n : Nat, -1 ≤ topN fs x y n ∧ topN fs x y n < n
  | 0 => by simp [topN]
  | n + 1 => by
    have h := topN_bd fs x y n
    simp only [topN]
    split <;> (try split) <;> omega
/-- The top: the last that has the point. -/
theorem topN_at (fs : List Fil) (x y : Int) : ∀ (n i : Nat) (f : Fil), fs[i]? = some f → topN fs x y n ≤ i → i < n → (insF f x y = decide ((i : Int) = topN fs x y n))
  | 0, i, f, _, _, h => by omega
  | n + 1, i, f, hf, h1, h2 => by
    have ih := topN_at fs x y n i f hf
    have hb := topN_bd fs x y n
    by_cases hin : i = n
    · subst hin
      cases hi : insF f x y with
      | true => rw [topN_yes hf hi]; simp
      | false =>
        rw [topN_no hf hi]
        symm
        simp only [decide_eq_false_iff_not]
        omega
    · have h3 : i < n := by omega
      cases hg : fs[n]? with
      | none =>
        have e : topN fs x y (n + 1) = topN fs x y n := by simp only [topN, hg]
        rw [e] at h1 ⊢
        exact ih h1 h3
      | some g =>
        cases hj : insF g x y with
        | true => rw [topN_yes hg hj] at h1; omega
        | false => rw [topN_no hg hj] at h1 ⊢; exact ih h1 h3
theorem topF_bd (s : Scn) (p : Pt) : -1 ≤ topF s p ∧ topF s p < s.fs.length ∨ topF s p = -1 := by
  unfold topF
  split
  · exact .inl (topN_bd _ _ _ _)
  · exact .inr rfl
theorem topF_bd2 (s : Scn) (p : Pt) : -1 ≤ topF s p ∧ (topF s p < s.fs.length ∨ topF s p = -1) := by
  have := topF_bd s p; omega
/-- What the law asks of a fill. -/
def hasF (f : Fil) (p : Pt) : Bool := vRings (ringsV f.p) && isRl f.rl && isU p.x && isU p.y && insN (wind (ringsV f.p) p.x p.y) f.rl
theorem hasF_in {s : Scn} {n : Nat} {f : Fil} {p : Pt} (h : vScn s = true) (hf : s.fs[n]? = some f) (hp : vPt p = true) : hasF f p = insF f p.x p.y := by
  have hq := vFil_path (vScn_at h hf)
  simp only [vPt, Bool.and_eq_true] at hp
  simp only [hasF, insF, ringsV_yes hq.1, hq.2.1, hq.2.2, hp.1, hp.2, Bool.true_and]
theorem hasF_no {f : Fil} {p : Pt} (hp : vPt p = false) : hasF f p = false := by
  simp only [vPt, Bool.and_eq_false_iff] at hp
  unfold hasF
  rcases hp with h | h <;> simp [h]
theorem top_law {s : Scn} {n : Nat} {f : Fil} {p : Pt} (h : vScn s = true) (hf : s.fs[n]? = some f) (h1 : topF s p ≤ n) : hasF f p = decide ((n : Int) = topF s p) := by
  have hl := (List.getElem?_eq_some_iff.1 hf).1
  cases hp : vPt p with
  | true =>
    rw [hasF_in h hf hp, topF_in2 h hp]
    rw [topF_in2 h hp] at h1
    exact topN_at _ _ _ _ n f hf h1 hl
  | false =>
    rw [hasF_no hp, topF_no2 hp]
    simp
theorem topN_any (fs : List Fil) (x y : Int) : ∀ n : Nat, (fs.take n).any (fun f => insF f x y) = decide (0 ≤ topN fs x y n)
  | 0 => by simp [topN]
  | n + 1 => by
    have ih := topN_any fs x y n
    cases hg : fs[n]? with
    | none =>
      have e : topN fs x y (n + 1) = topN fs x y n := by simp only [topN, hg]
      rw [e, ← ih, List.take_of_length_le (Nat.le_succ_of_le (List.getElem?_eq_none_iff.1 hg)), List.take_of_length_le (List.getElem?_eq_none_iff.1 hg)]
    | some g =>
      rw [List.take_add_one, hg, List.any_append, ih]
      cases hj : insF g x y with
      | true => rw [topN_yes hg hj]; simp [hj]
      | false => rw [topN_no hg hj]; simp [hj]
theorem top_any {s : Scn} {p : Pt} (h : vScn s = true) : s.fs.any (fun f => hasF f p) = decide (0 ≤ topF s p) := by
  cases hp : vPt p with
  | true =>
    rw [topF_in2 h hp, ← topN_any, List.take_of_length_le (Nat.le_refl _)]
    rw [Bool.eq_iff_iff, List.any_eq_true, List.any_eq_true]
    constructor
    · rintro ⟨f, hf, hh⟩
      obtain ⟨n, hn⟩ := List.getElem?_of_mem hf
      exact ⟨f, hf, by rw [← hasF_in h hn hp]; exact hh⟩
    · rintro ⟨f, hf, hh⟩
      obtain ⟨n, hn⟩ := List.getElem?_of_mem hf
      exact ⟨f, hf, by rw [hasF_in h hn hp]; exact hh⟩
  | false =>
    rw [topF_no2 hp]
    have : ∀ l : List Fil, l.any (fun f => hasF f p) = false := fun l => by
      rw [List.any_eq_false]; intro f _; rw [hasF_no hp]; decide
    rw [this]; rfl
theorem topF_nil (w h : Int) (p : Pt) : topF ⟨w, h, []⟩ p = -1 := by
  unfold topF
  split <;> rfl
theorem any_step {l : List Fil} {i : Int} {f : Fil} {p : Pt} (h : l[i.toNat]? = some f) (h0 : 0 ≤ i) : (l.take (i + 1).toNat).any (fun f => hasF f p) = ((l.take i.toNat).any (fun f => hasF f p) || hasF f p) := by
  rw [takeN h h0, List.any_append]; simp
end Go.Proofs.Ytdkfamajaopgoaa
end
