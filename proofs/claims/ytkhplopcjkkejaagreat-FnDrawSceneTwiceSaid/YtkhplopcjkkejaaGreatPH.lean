/- Contracts of functions of the program vectorraster, each proved for all states that fit its description. No conditions. -/
import Derived.Test.YtkhplopcjkkejaaGreatPD
import Derived.Test.YtkhplopcjkkejaaGreatPE
import Derived.Test.YtkhplopcjkkejaaGreatKK
import Derived.Test.YtkhplopcjkkejaaGreatPG
set_option linter.unusedSimpArgs false
set_option linter.unusedVariables false
section
set_option maxRecDepth 100000
set_option linter.unusedSimpArgs false
set_option linter.unusedVariables false
namespace Go.Proofs.YtkhplopcjkkejaaGreat
open Go Go.VE
theorem nPts_app (a b : List Verb) : nPts (a ++ b) = nPts a + nPts b := by simp [nPts]
theorem vb_map (a : List Verb) (k : Int) (b : List Pt) : a.map vbC ++ [[C.v (.int .i64 k), C.sl false (b.map ptC)]] = (a ++ [(⟨k, b⟩ : Verb)]).map vbC := by rw [List.map_append]; rfl
theorem vPath_pts {p : List Verb} (h : vPath p = true) : nPts p ≤ 40 := by
  simp only [vPath, Bool.and_eq_true, decide_eq_true_eq] at h; exact h.2
def spAPath_A : Unit → List AV
  | () => [.c .rdr]
def spAPath_pre : Unit → Prop
  | () => True
def spAPath_post : Unit → AV → List Box → Prop
  | (), r, bs => ∃ p, r = .c (.own 0 p.length false) ∧ bs = [⟨p.map vbC, 2, 114, true, false⟩] ∧ p.length ≤ 31 ∧ nPts p ≤ 100
def spAPath : VE.Spec := famSpec spAPath_A d_r spAPath_pre spAPath_post 220 false
theorem spAPath_q : spAPath.flat = false ∧ spAPath.mt = [] ∧ spAPath.shut = false ∧ spAPath.cost = 220 ∧ (∀ a i, spAPath.pre a i = (i = [] ∧ famPre d_r spAPath_A spAPath_pre a)) ∧ ∀ a i r b, spAPath.post a i r b = (famPost d_r spAPath_post a r b) := ⟨rfl, rfl, rfl, rfl, fun _ _ => rfl, fun _ _ _ _ => rfl⟩
def tb110 : Nat → Option VE.Spec := tabOf [(90, wkIn spPick), (46, wkIn spOne), (154, wkIn spSome), (155, wkIn spAnyP), (135, wkIn spRPath)]
theorem tb110_90 : tb110 90 = some (wkIn spPick) := rfl
theorem tb110_46 : tb110 46 = some (wkIn spOne) := rfl
theorem tb110_154 : tb110 154 = some (wkIn spSome) := rfl
theorem tb110_155 : tb110 155 = some (wkIn spAnyP) := rfl
theorem tb110_135 : tb110 135 = some (wkIn spRPath) := rfl
theorem tb110_ok : TabOK Tryz.prog rt0 tb110 := (tabOf_cons (by kernel_rfl) sat_spec_reader_pick (tabOf_cons (by kernel_rfl) sat_spec_reader_one (tabOf_cons (by kernel_rfl) sat_spec_somePoint (tabOf_cons (by kernel_rfl) sat_spec_anyPoint (tabOf_cons (by kernel_rfl) sat_spec_randomPath tabOf_nil)))))
set_option maxHeartbeats 4000000 in
theorem sat_spec_anyPath_0 : Sat Tryz.prog rt0 110 (wkOut spAPath) := by
  refine fn_sat hm ttok (tab := tb110) tb110_ok Tryz.func110 (c := Tryz.f110.body.getD .skip) (by kernel_rfl) (ts := [.tmp 2]) (by kernel_rfl) Tryz.ntmps110 (sq := fun _ => true) (by kernel_rfl) ?_
  intro args ins pk hpre0 hpk
  obtain ⟨rfl, hpre0⟩ := hpre0
  obtain ⟨⟨⟩, rfl, hpre, hdec⟩ := famPre_ex hpre0
  clear hpre0 hdec
  try simp only [spAPath_pre] at hpre
  replace hpk : pk + 220 ≤ pickLimit := hpk
  refine ⟨Nat.le_of_ble_eq_true rfl, ?_⟩
  simp (config := { maxSteps := 1000000 }) only [go_sem, ↓ifP_true, ↓ifP_false, ↓ifP_not, Nat.reduceLT, Nat.reduceAdd, Nat.reduceBEq, Nat.reduceSub, Nat.reduceLeDiff, Nat.reduceEqDiff, Nat.reduceMul, Int.reduceToNat, Int.reduceEq, Int.reduceLT, Int.reduceLE, Int.reduceAdd, Int.reduceSub, Int.reduceMul, reduceCtorEq, cond_true, cond_false, forall_eq', forall_eq, forall_const, implies_true, if_true, if_false, exists_eq_left', exists_eq', exists_eq, ne_eq, Tryz.f110, tb110_90, tb110_46, tb110_154, tb110_155, tb110_135, spAPath_q, spAPath_A, spAPath_pre, spAPath_post, spPick_q, spPick_A, spPick_pre, spPick_post, spOne_q, spOne_A, spOne_pre, spOne_post, spSome_q, spSome_A, spSome_pre, spSome_post, spAnyP_q, spAnyP_A, spAnyP_pre, spAnyP_post, spRPath_q, spRPath_A, spRPath_pre, spRPath_post, Picks]
  repeat' (first | apply And.intro | (intro _) | omega | assumption | with_reducible rfl)
  any_goals
    refine loopS (α := (List Verb)) true [1, 3, 4, 5, 6, 7, 8, 9, 10, 11, 12, 13, 14, 15, 16, 17, 18, 19, 20, 21, 22, 23, 24, 25, 26, 27, 28, 29, 30, 31, 32, 33, 34, 35, 36, 37, 38, 39, 40, 41, 42, 43, 44, 45, 46, 47, 48, 49, 50, 51, 52] (fun σ => [gId (σ.get 3)]) (fun σ x => [(3, .c (.own (gId (σ.get 3)) (x).length false))]) (fun σ x => [(gId (σ.get 3), some ⟨(x).map vbC, 2, 114, true, false⟩)]) (fun o => 3 * o.length) (fun σ => gL vbCd σ (σ.get 3)) (fun σ τ => [(gId (σ.get 3), gId (τ.get 3))]) (fun o => o.length ≤ 31 ∧ nPts o ≤ 40 + o.length) (fun o => 31 - o.length) ⟨by (simp (config := { maxSteps := 1000000 }) only [go_sem, ↓ifP_true, ↓ifP_false, ↓ifP_not, Nat.reduceLT, Nat.reduceAdd, Nat.reduceBEq, Nat.reduceSub, Nat.reduceLeDiff, Nat.reduceEqDiff, Nat.reduceMul, Int.reduceToNat, Int.reduceEq, Int.reduceLT, Int.reduceLE, Int.reduceAdd, Int.reduceSub, Int.reduceMul, reduceCtorEq, cond_true, cond_false, forall_eq', forall_eq, forall_const, implies_true, if_true, if_false, exists_eq_left', exists_eq', exists_eq, ne_eq, Tryz.f110, tb110_90, tb110_46, tb110_154, tb110_155, tb110_135, spAPath_q, spAPath_A, spAPath_pre, spAPath_post, spPick_q, spPick_A, spPick_pre, spPick_post, spOne_q, spOne_A, spOne_pre, spOne_post, spSome_q, spSome_A, spSome_pre, spSome_post, spAnyP_q, spAnyP_A, spAnyP_pre, spAnyP_post, spRPath_q, spRPath_A, spRPath_pre, spRPath_post, Picks]; (repeat' (first | apply And.intro | (intro _) | omega | assumption | with_reducible rfl)); all_goals (first | (have h1 := vPath_len ‹_›; omega) | (have h2 := vPath_pts ‹_›; omega))), ?_⟩
    rintro o hinv
    try dsimp only at hinv
    simp (config := { maxSteps := 1000000 }) only [go_sem, ↓ifP_true, ↓ifP_false, ↓ifP_not, Nat.reduceLT, Nat.reduceAdd, Nat.reduceBEq, Nat.reduceSub, Nat.reduceLeDiff, Nat.reduceEqDiff, Nat.reduceMul, Int.reduceToNat, Int.reduceEq, Int.reduceLT, Int.reduceLE, Int.reduceAdd, Int.reduceSub, Int.reduceMul, reduceCtorEq, cond_true, cond_false, forall_eq', forall_eq, forall_const, implies_true, if_true, if_false, exists_eq_left', exists_eq', exists_eq, ne_eq, Tryz.f110, tb110_90, tb110_46, tb110_154, tb110_155, tb110_135, spAPath_q, spAPath_A, spAPath_pre, spAPath_post, spPick_q, spPick_A, spPick_pre, spPick_post, spOne_q, spOne_A, spOne_pre, spOne_post, spSome_q, spSome_A, spSome_pre, spSome_post, spAnyP_q, spAnyP_A, spAnyP_pre, spAnyP_post, spRPath_q, spRPath_A, spRPath_pre, spRPath_post, Picks]
    repeat' (first | apply And.intro | (intro _) | omega | assumption | with_reducible rfl)
  
  all_goals (first | ((have h1 := vPath_len ‹_›; omega); done) | ((rw [nPts_snoc]; simp only [List.length_singleton]; omega); done) | (exact ⟨_, rfl, rfl, by omega, by omega⟩; done) | (exact ⟨_, rfl, rfl, by have h1 := vPath_len ‹_›; omega, by have h1 := vPath_pts ‹_›; omega⟩; done) | (exact ⟨⟨‹Int›, [‹Pt›]⟩ :: ‹List Verb›, by simp [Nat.add_comm], rfl, by have h1 := vPath_len ‹_›; simp only [List.length_cons]; omega, by have h1 := vPath_pts ‹_›; simp only [nPts, List.map_cons, List.sum_cons, List.length_singleton] at *; omega⟩; done) | (exact ⟨‹List Verb› ++ [⟨4, [‹Pt›]⟩], by rw [List.length_append]; rfl, vb_map _ 4 [‹Pt›], by have h1 := vPath_len ‹_›; simp only [List.length_append, List.length_singleton]; omega, by have h1 := vPath_pts ‹_›; rw [nPts_snoc]; simp only [List.length_singleton]; omega⟩; done) | (exact ⟨‹List Verb› ++ [⟨0, [‹Pt›]⟩], by rw [List.length_append]; rfl, vb_map _ 0 [‹Pt›], by have h1 := vPath_len ‹_›; simp only [List.length_append, List.length_singleton]; omega, by have h1 := vPath_pts ‹_›; rw [nPts_snoc]; simp only [List.length_singleton]; omega⟩; done))
theorem sat_spec_anyPath : Sat Tryz.prog rt0 110 (wkIn spAPath) := sat_in (sat_out sat_spec_anyPath_0)
end Go.Proofs.YtkhplopcjkkejaaGreat
end
section
set_option maxRecDepth 100000
set_option linter.unusedSimpArgs false
set_option linter.unusedVariables false
namespace Go.Proofs.YtkhplopcjkkejaaGreat
open Go Go.VE
def spDWA_A : (List UInt8) → List AV
  | code => [.c (.sl false (byC code))]
def spDWA_pre : (List UInt8) → Prop
  | code => code.length ≤ 1048576
def spDWA_post : (List UInt8) → AV → List Box → Prop
  | code, r, bs => ∃ L x y, r = .tup [.c (.sl false (L.map lptC)), I x, I y] ∧ bs = [] ∧ (L.length ≤ 9 ∧ total L ≤ 210 ∧ okLL L) ∧ okP ⟨x, y⟩
def spDWA : VE.Spec := famSpecS spDWA_A d_ly spDWA_pre spDWA_post 190 false
theorem spDWA_q : spDWA.flat = false ∧ spDWA.mt = [] ∧ spDWA.shut = true ∧ spDWA.cost = 190 ∧ (∀ a i, spDWA.pre a i = (i = [] ∧ famPre d_ly spDWA_A spDWA_pre a)) ∧ ∀ a i r b, spDWA.post a i r b = (famPost d_ly spDWA_post a r b) := ⟨rfl, rfl, rfl, rfl, fun _ _ => rfl, fun _ _ _ _ => rfl⟩
def spDIA_A : (List UInt8) → List AV
  | code => [.c (.sl false (byC code))]
def spDIA_pre : (List UInt8) → Prop
  | code => code.length ≤ 1048576
def spDIA_post : (List UInt8) → AV → List Box → Prop
  | code, r, bs => ∃ L rl x y, r = .tup [.c (.sl false (L.map lptC)), I rl, I x, I y] ∧ bs = [] ∧ (L.length ≤ 9 ∧ total L ≤ 210 ∧ okLL L) ∧ okP ⟨x, y⟩
def spDIA : VE.Spec := famSpecS spDIA_A d_ly spDIA_pre spDIA_post 190 false
theorem spDIA_q : spDIA.flat = false ∧ spDIA.mt = [] ∧ spDIA.shut = true ∧ spDIA.cost = 190 ∧ (∀ a i, spDIA.pre a i = (i = [] ∧ famPre d_ly spDIA_A spDIA_pre a)) ∧ ∀ a i r b, spDIA.post a i r b = (famPost d_ly spDIA_post a r b) := ⟨rfl, rfl, rfl, rfl, fun _ _ => rfl, fun _ _ _ _ => rfl⟩
def spDCO_A : (List UInt8) → List AV
  | code => [.c (.sl false (byC code))]
def spDCO_pre : (List UInt8) → Prop
  | code => code.length ≤ 1048576
def spDCO_post : (List UInt8) → AV → List Box → Prop
  | code, r, bs => ∃ L rl c w, r = .tup [.c (.sl false (L.map lptC)), I rl, I c, I w] ∧ bs = [] ∧ (L.length ≤ 9 ∧ total L ≤ 210 ∧ okLL L)
def spDCO : VE.Spec := famSpecS spDCO_A d_ly spDCO_pre spDCO_post 190 false
theorem spDCO_q : spDCO.flat = false ∧ spDCO.mt = [] ∧ spDCO.shut = true ∧ spDCO.cost = 190 ∧ (∀ a i, spDCO.pre a i = (i = [] ∧ famPre d_ly spDCO_A spDCO_pre a)) ∧ ∀ a i r b, spDCO.post a i r b = (famPost d_ly spDCO_post a r b) := ⟨rfl, rfl, rfl, rfl, fun _ _ => rfl, fun _ _ _ _ => rfl⟩
def spDEI_A : (List UInt8) → List AV
  | code => [.c (.sl false (byC code))]
def spDEI_pre : (List UInt8) → Prop
  | code => code.length ≤ 1048576
def spDEI_post : (List UInt8) → AV → List Box → Prop
  | code, r, bs => ∃ L w h t, r = .tup [.c (.sl false (L.map lptC)), I w, I h, I t] ∧ bs = [] ∧ (L.length ≤ 9 ∧ total L ≤ 210 ∧ okLL L)
def spDEI : VE.Spec := famSpecS spDEI_A d_ly spDEI_pre spDEI_post 190 false
theorem spDEI_q : spDEI.flat = false ∧ spDEI.mt = [] ∧ spDEI.shut = true ∧ spDEI.cost = 190 ∧ (∀ a i, spDEI.pre a i = (i = [] ∧ famPre d_ly spDEI_A spDEI_pre a)) ∧ ∀ a i r b, spDEI.post a i r b = (famPost d_ly spDEI_post a r b) := ⟨rfl, rfl, rfl, rfl, fun _ _ => rfl, fun _ _ _ _ => rfl⟩
end Go.Proofs.YtkhplopcjkkejaaGreat
end
section
set_option maxRecDepth 100000
set_option linter.unusedSimpArgs false
set_option linter.unusedVariables false
namespace Go.Proofs.YtkhplopcjkkejaaGreat
open Go Go.VE
def spLaw_A : (List UInt8) → List AV
  | code => [.c (.sl false (byC code))]
def spLaw_pre : (List UInt8) → Prop
  | code => True
def spLaw_post : (List UInt8) → AV → List Box → Prop
  | code, r, bs => r = B (true) ∧ bs = []
def spLaw : VE.Spec := famSpec spLaw_A d_ly spLaw_pre spLaw_post 100000 false
theorem spLaw_q : spLaw.flat = false ∧ spLaw.mt = [] ∧ spLaw.shut = false ∧ spLaw.cost = 100000 ∧ (∀ a i, spLaw.pre a i = (i = [] ∧ famPre d_ly spLaw_A spLaw_pre a)) ∧ ∀ a i r b, spLaw.post a i r b = (famPost d_ly spLaw_post a r b) := ⟨rfl, rfl, rfl, rfl, fun _ _ => rfl, fun _ _ _ _ => rfl⟩
end Go.Proofs.YtkhplopcjkkejaaGreat
end
