/- Contracts of functions of the program vectorraster, each proved for all states that fit its description. No conditions. -/
import Derived.Test.YtdkfamajaopgoaaPJ
import Derived.Test.YtdkfamajaopgoaaPA
import Derived.Test.YtdkfamajaopgoaaKK
import Derived.Test.YtdkfamajaopgoaaPO
import Derived.Test.YtdkfamajaopgoaaPC
import Derived.Test.YtdkfamajaopgoaaPH
set_option linter.unusedSimpArgs false
set_option linter.unusedVariables false
section
set_option maxRecDepth 100000
set_option linter.unusedSimpArgs false
set_option linter.unusedVariables false
namespace Go.Proofs.Ytdkfamajaopgoaa
open Go Go.VE
def spEqP_A : (List Pt) × (List Pt) → List AV
  | (a, b) => [.c (.sl false (a.map ptC)), .c (.sl false (b.map ptC))]
def spEqP_pre : (List Pt) × (List Pt) → Prop
  | (a, b) => a.length ≤ 1000000000 ∧ b.length ≤ 1000000000
def spEqP_post : (List Pt) × (List Pt) → AV → List Box → Prop
  | (a, b), r, bs => r = B (decide (a = b)) ∧ bs = []
def spEqP : VE.Spec := famSpec spEqP_A d_lpt_lpt spEqP_pre spEqP_post 0 true
theorem spEqP_q : spEqP.flat = true ∧ spEqP.mt = [] ∧ spEqP.shut = false ∧ spEqP.cost = 0 ∧ (∀ a i, spEqP.pre a i = (i = [] ∧ famPre d_lpt_lpt spEqP_A spEqP_pre a)) ∧ ∀ a i r b, spEqP.post a i r b = (famPost d_lpt_lpt spEqP_post a r b) := ⟨rfl, rfl, rfl, rfl, fun _ _ => rfl, fun _ _ _ _ => rfl⟩
def tb53 : Nat → Option VE.Spec := tabOf []
theorem tb53_ok : TabOK Try.prog rt0 tb53 := tabOf_nil
set_option maxHeartbeats 4000000 in
theorem sat_laws_equalPoints_0 : Sat Try.prog rt0 53 (wkOut spEqP) := by
  refine fn_sat hm ttok (tab := tb53) tb53_ok Try.func53 (c := Try.f53.body.getD .skip) (by kernel_rfl) (ts := [.tmp 4]) (by kernel_rfl) Try.ntmps53 (sq := fun _ => true) (by kernel_rfl) ?_
  intro args ins pk hpre0 hpk
  obtain ⟨rfl, hpre0⟩ := hpre0
  obtain ⟨⟨a, b⟩, rfl, hpre, hdec⟩ := famPre_ex hpre0
  clear hpre0 hdec
  try simp only [spEqP_pre] at hpre
  replace hpk : pk + 0 ≤ pickLimit := hpk
  refine ⟨Nat.le_of_ble_eq_true rfl, ?_⟩
  simp (config := { maxSteps := 1000000 }) only [go_sem, ↓ifP_true, ↓ifP_false, ↓ifP_not, Nat.reduceLT, Nat.reduceAdd, Nat.reduceBEq, Nat.reduceSub, Nat.reduceLeDiff, Nat.reduceEqDiff, Nat.reduceMul, Int.reduceToNat, Int.reduceEq, Int.reduceLT, Int.reduceLE, Int.reduceAdd, Int.reduceSub, Int.reduceMul, reduceCtorEq, cond_true, cond_false, forall_eq', forall_eq, forall_const, implies_true, if_true, if_false, exists_eq_left', exists_eq', exists_eq, ne_eq, Try.f53, spEqP_q, spEqP_A, spEqP_pre, spEqP_post]
  repeat' (first | apply And.intro | (intro _) | omega | assumption | with_reducible rfl)
  any_goals
    refine loopS (α := Int) false [2, 3, 4, 5, 6, 7, 8, 9, 10, 11, 12, 13, 14, 15, 16, 17, 18, 19, 20, 21, 22, 23, 24, 25] (fun σ => []) (fun σ x => [(5, I x)]) (fun σ x => []) (fun i => 0) (fun σ => gI (σ.get 5)) (fun σ τ => []) (fun i => 0 ≤ i ∧ i ≤ a.length ∧ a.take i.toNat = b.take i.toNat) (fun i => (a.length - i).toNat) ⟨by (simp (config := { maxSteps := 1000000 }) only [go_sem, ↓ifP_true, ↓ifP_false, ↓ifP_not, Nat.reduceLT, Nat.reduceAdd, Nat.reduceBEq, Nat.reduceSub, Nat.reduceLeDiff, Nat.reduceEqDiff, Nat.reduceMul, Int.reduceToNat, Int.reduceEq, Int.reduceLT, Int.reduceLE, Int.reduceAdd, Int.reduceSub, Int.reduceMul, reduceCtorEq, cond_true, cond_false, forall_eq', forall_eq, forall_const, implies_true, if_true, if_false, exists_eq_left', exists_eq', exists_eq, ne_eq, Try.f53, spEqP_q, spEqP_A, spEqP_pre, spEqP_post]; (repeat' (first | apply And.intro | (intro _) | omega | assumption | with_reducible rfl)); all_goals (first | rfl)), ?_⟩
    rintro i hinv
    try dsimp only at hinv
    simp (config := { maxSteps := 1000000 }) only [go_sem, ↓ifP_true, ↓ifP_false, ↓ifP_not, Nat.reduceLT, Nat.reduceAdd, Nat.reduceBEq, Nat.reduceSub, Nat.reduceLeDiff, Nat.reduceEqDiff, Nat.reduceMul, Int.reduceToNat, Int.reduceEq, Int.reduceLT, Int.reduceLE, Int.reduceAdd, Int.reduceSub, Int.reduceMul, reduceCtorEq, cond_true, cond_false, forall_eq', forall_eq, forall_const, implies_true, if_true, if_false, exists_eq_left', exists_eq', exists_eq, ne_eq, Try.f53, spEqP_q, spEqP_A, spEqP_pre, spEqP_post]
    repeat' (first | apply And.intro | (intro _) | omega | assumption | with_reducible rfl)
  
  all_goals (first | (exact eqL_step ‹_› ‹_› ‹_› hinv.1 hinv.2.2; done) | (exact (decide_eq_false (eqL_no ‹_› ‹_› ‹_›)).symm; done) | (exact (decide_eq_true (eqL_end ‹_› ‹_› hinv.2.2)).symm; done) | (exact (decide_eq_false (eqL_len ‹_›)).symm; done))
theorem sat_laws_equalPoints : Sat Try.prog rt0 53 (wkIn spEqP) := sat_in (sat_out sat_laws_equalPoints_0)
def spEqR_A : (List (List Pt)) × (List (List Pt)) → List AV
  | (a, b) => [.c (.sl false (a.map lptC)), .c (.sl false (b.map lptC))]
def spEqR_pre : (List (List Pt)) × (List (List Pt)) → Prop
  | (a, b) => a.length ≤ 1000000000 ∧ b.length ≤ 1000000000 ∧ total a ≤ 1000000000 ∧ total b ≤ 1000000000
def spEqR_post : (List (List Pt)) × (List (List Pt)) → AV → List Box → Prop
  | (a, b), r, bs => r = B (decide (a = b)) ∧ bs = []
def spEqR : VE.Spec := famSpec spEqR_A d_llpt_llpt spEqR_pre spEqR_post 0 true
theorem spEqR_q : spEqR.flat = true ∧ spEqR.mt = [] ∧ spEqR.shut = false ∧ spEqR.cost = 0 ∧ (∀ a i, spEqR.pre a i = (i = [] ∧ famPre d_llpt_llpt spEqR_A spEqR_pre a)) ∧ ∀ a i r b, spEqR.post a i r b = (famPost d_llpt_llpt spEqR_post a r b) := ⟨rfl, rfl, rfl, rfl, fun _ _ => rfl, fun _ _ _ _ => rfl⟩
def tb19 : Nat → Option VE.Spec := tabOf [(53, wkIn spEqP)]
theorem tb19_53 : tb19 53 = some (wkIn spEqP) := rfl
theorem tb19_ok : TabOK Try.prog rt0 tb19 := (tabOf_cons (by kernel_rfl) sat_laws_equalPoints tabOf_nil)
set_option maxHeartbeats 4000000 in
theorem sat_laws_equalRings_0 : Sat Try.prog rt0 19 (wkOut spEqR) := by
  refine fn_sat hm ttok (tab := tb19) tb19_ok Try.func19 (c := Try.f19.body.getD .skip) (by kernel_rfl) (ts := [.tmp 4]) (by kernel_rfl) Try.ntmps19 (sq := fun _ => true) (by kernel_rfl) ?_
  intro args ins pk hpre0 hpk
  obtain ⟨rfl, hpre0⟩ := hpre0
  obtain ⟨⟨a, b⟩, rfl, hpre, hdec⟩ := famPre_ex hpre0
  clear hpre0 hdec
  try simp only [spEqR_pre] at hpre
  replace hpk : pk + 0 ≤ pickLimit := hpk
  refine ⟨Nat.le_of_ble_eq_true rfl, ?_⟩
  simp (config := { maxSteps := 1000000 }) only [go_sem, ↓ifP_true, ↓ifP_false, ↓ifP_not, Nat.reduceLT, Nat.reduceAdd, Nat.reduceBEq, Nat.reduceSub, Nat.reduceLeDiff, Nat.reduceEqDiff, Nat.reduceMul, Int.reduceToNat, Int.reduceEq, Int.reduceLT, Int.reduceLE, Int.reduceAdd, Int.reduceSub, Int.reduceMul, reduceCtorEq, cond_true, cond_false, forall_eq', forall_eq, forall_const, implies_true, if_true, if_false, exists_eq_left', exists_eq', exists_eq, ne_eq, Try.f19, tb19_53, spEqR_q, spEqR_A, spEqR_pre, spEqR_post, spEqP_q, spEqP_A, spEqP_pre, spEqP_post]
  repeat' (first | apply And.intro | (intro _) | omega | assumption | with_reducible rfl)
  any_goals
    refine loopS (α := Int) false [2, 3, 4, 5, 6, 7, 8, 9, 10, 11, 12, 13, 14, 15, 16, 17, 18, 19, 20, 21, 22, 23, 24, 25, 26] (fun σ => []) (fun σ x => [(5, I x)]) (fun σ x => []) (fun i => 0) (fun σ => gI (σ.get 5)) (fun σ τ => []) (fun i => 0 ≤ i ∧ i ≤ a.length ∧ a.take i.toNat = b.take i.toNat) (fun i => (a.length - i).toNat) ⟨by (simp (config := { maxSteps := 1000000 }) only [go_sem, ↓ifP_true, ↓ifP_false, ↓ifP_not, Nat.reduceLT, Nat.reduceAdd, Nat.reduceBEq, Nat.reduceSub, Nat.reduceLeDiff, Nat.reduceEqDiff, Nat.reduceMul, Int.reduceToNat, Int.reduceEq, Int.reduceLT, Int.reduceLE, Int.reduceAdd, Int.reduceSub, Int.reduceMul, reduceCtorEq, cond_true, cond_false, forall_eq', forall_eq, forall_const, implies_true, if_true, if_false, exists_eq_left', exists_eq', exists_eq, ne_eq, Try.f19, tb19_53, spEqR_q, spEqR_A, spEqR_pre, spEqR_post, spEqP_q, spEqP_A, spEqP_pre, spEqP_post]; (repeat' (first | apply And.intro | (intro _) | omega | assumption | with_reducible rfl)); all_goals (first | rfl)), ?_⟩
    rintro i hinv
    try dsimp only at hinv
    simp (config := { maxSteps := 1000000 }) only [go_sem, ↓ifP_true, ↓ifP_false, ↓ifP_not, Nat.reduceLT, Nat.reduceAdd, Nat.reduceBEq, Nat.reduceSub, Nat.reduceLeDiff, Nat.reduceEqDiff, Nat.reduceMul, Int.reduceToNat, Int.reduceEq, Int.reduceLT, Int.reduceLE, Int.reduceAdd, Int.reduceSub, Int.reduceMul, reduceCtorEq, cond_true, cond_false, forall_eq', forall_eq, forall_const, implies_true, if_true, if_false, exists_eq_left', exists_eq', exists_eq, ne_eq, Try.f19, tb19_53, spEqR_q, spEqR_A, spEqR_pre, spEqR_post, spEqP_q, spEqP_A, spEqP_pre, spEqP_post]
    repeat' (first | apply And.intro | (intro _) | omega | assumption | with_reducible rfl)
  
  all_goals (first | (exact eqL_step ‹_› ‹_› ‹_› hinv.1 hinv.2.2; done) | (exact (decide_eq_false (eqL_no ‹_› ‹_› ‹_›)).symm; done) | (exact (decide_eq_true (eqL_end ‹_› ‹_› hinv.2.2)).symm; done) | (exact (decide_eq_false (eqL_len ‹_›)).symm; done) | ((have h9 := total_mem ‹a[i.toNat]? = some _›; omega); done) | ((have h9 := total_mem ‹b[i.toNat]? = some _›; omega); done))
theorem sat_laws_equalRings : Sat Try.prog rt0 19 (wkIn spEqR) := sat_in (sat_out sat_laws_equalRings_0)
end Go.Proofs.Ytdkfamajaopgoaa
end
section
set_option maxRecDepth 100000
set_option linter.unusedSimpArgs false
set_option linter.unusedVariables false
namespace Go.Proofs.Ytdkfamajaopgoaa
open Go Go.VE
end Go.Proofs.Ytdkfamajaopgoaa
end
section
set_option maxRecDepth 100000
set_option linter.unusedSimpArgs false
set_option linter.unusedVariables false
namespace Go.Proofs.Ytdkfamajaopgoaa
open Go Go.VE
theorem area_part2 {L : List (List Pt)} {i k : Int} {r : List Pt} (h : vRings L = true) (hr : L[i.toNat]? = some r) : -3600000000 ≤ areaE (edgesOf (L.take i.toNat) ++ (ringE r).take k.toNat) ∧ areaE (edgesOf (L.take i.toNat) ++ (ringE r).take k.toNat) ≤ 3600000000 := by
  have h0 := vRings_ok h
  have h1 := areaE_bd (es := edgesOf (L.take i.toNat) ++ (ringE r).take k.toNat) fun e he => by
    rcases List.mem_append.1 he with he | he
    · exact edges_ok ⟨fun q hq => h0.all q (List.mem_of_mem_take hq)⟩ e he
    · exact ringE_ok (h0.all r (List.mem_of_getElem? hr)) e (List.mem_of_mem_take he)
  have h2 := total_mem hr
  have h3 := (vRings_len h).2
  have h4 : (edgesOf (L.take i.toNat) ++ (ringE r).take k.toNat).length ≤ 200 := by
    rw [List.length_append, edgesOf_len, List.length_take, ringE_len]; omega
  omega
end Go.Proofs.Ytdkfamajaopgoaa
end
section
set_option maxRecDepth 100000
set_option linter.unusedSimpArgs false
set_option linter.unusedVariables false
namespace Go.Proofs.Ytdkfamajaopgoaa
open Go Go.VE
def tb20 : Nat → Option VE.Spec := tabOf [(47, wkIn spVPath), (48, wkIn spRings)]
theorem tb20_47 : tb20 47 = some (wkIn spVPath) := rfl
theorem tb20_48 : tb20 48 = some (wkIn spRings) := rfl
theorem tb20_ok : TabOK Try.prog rt0 tb20 := (tabOf_cons (by kernel_rfl) sat_impl_ValidPath (tabOf_cons (by kernel_rfl) sat_impl_rings tabOf_nil))
set_option maxHeartbeats 4000000 in
theorem sat_impl_RingsOf_0 : Sat Try.prog rt0 20 (wkOut spRO) := by
  refine fn_sat hm ttok (tab := tb20) tb20_ok Try.func20 (c := Try.f20.body.getD .skip) (by kernel_rfl) (ts := [.tmp 2]) (by kernel_rfl) Try.ntmps20 (sq := fun _ => true) (by kernel_rfl) ?_
  intro args ins pk hpre0 hpk
  obtain ⟨rfl, hpre0⟩ := hpre0
  obtain ⟨p, rfl, hpre, hdec⟩ := famPre_ex hpre0
  clear hpre0 hdec
  try simp only [spRO_pre] at hpre
  replace hpk : pk + 0 ≤ pickLimit := hpk
  refine ⟨Nat.le_of_ble_eq_true rfl, ?_⟩
  simp (config := { maxSteps := 1000000 }) only [go_sem, ↓ifP_true, ↓ifP_false, ↓ifP_not, Nat.reduceLT, Nat.reduceAdd, Nat.reduceBEq, Nat.reduceSub, Nat.reduceLeDiff, Nat.reduceEqDiff, Nat.reduceMul, Int.reduceToNat, Int.reduceEq, Int.reduceLT, Int.reduceLE, Int.reduceAdd, Int.reduceSub, Int.reduceMul, reduceCtorEq, cond_true, cond_false, forall_eq', forall_eq, forall_const, implies_true, if_true, if_false, exists_eq_left', exists_eq', exists_eq, ne_eq, Try.f20, tb20_47, tb20_48, spRO_q, spRO_A, spRO_pre, spRO_post, spVPath_q, spVPath_A, spVPath_pre, spVPath_post, spRings_q, spRings_A, spRings_pre, spRings_post]
  repeat' (first | apply And.intro | (intro _) | omega | assumption | with_reducible rfl)
  all_goals (first | ((rw [ringsV_yes ‹_›]); done) | ((rw [ringsV_yes ‹_›]; rfl); done) | ((rw [ringsV_no ‹_›]; rfl); done) | ((rw [ringsV_no ‹_›]); done) | ((have h9 := ringsV_len p; omega); done) | ((have h9 := rings_tot2 ‹vPath p = true›; omega); done) | (rfl; done))
theorem sat_impl_RingsOf : Sat Try.prog rt0 20 (wkIn spRO) := sat_in (sat_out sat_impl_RingsOf_0)
end Go.Proofs.Ytdkfamajaopgoaa
end
section
set_option maxRecDepth 100000
set_option linter.unusedSimpArgs false
set_option linter.unusedVariables false
namespace Go.Proofs.Ytdkfamajaopgoaa
open Go Go.VE
end Go.Proofs.Ytdkfamajaopgoaa
end
section
set_option maxRecDepth 100000
set_option linter.unusedSimpArgs false
set_option linter.unusedVariables false
namespace Go.Proofs.Ytdkfamajaopgoaa
open Go Go.VE
def spDRO_A : (List UInt8) → List AV
  | code => [.c (.sl false (byC code))]
def spDRO_pre : (List UInt8) → Prop
  | code => code.length ≤ 1048576
def spDRO_post : (List UInt8) → AV → List Box → Prop
  | code, r, bs => ∃ p : List Verb, r = .c (.sl false (p.map vbC)) ∧ bs = [] ∧ p.length ≤ 31 ∧ nPts p ≤ 100
def spDRO : VE.Spec := famSpecS spDRO_A d_ly spDRO_pre spDRO_post 230 false
theorem spDRO_q : spDRO.flat = false ∧ spDRO.mt = [] ∧ spDRO.shut = true ∧ spDRO.cost = 230 ∧ (∀ a i, spDRO.pre a i = (i = [] ∧ famPre d_ly spDRO_A spDRO_pre a)) ∧ ∀ a i r b, spDRO.post a i r b = (famPost d_ly spDRO_post a r b) := ⟨rfl, rfl, rfl, rfl, fun _ _ => rfl, fun _ _ _ _ => rfl⟩
def tb15 : Nat → Option VE.Spec := tabOf [(46, wkIn spNew), (45, wkIn spAPath)]
theorem tb15_46 : tb15 46 = some (wkIn spNew) := rfl
theorem tb15_45 : tb15 45 = some (wkIn spAPath) := rfl
theorem tb15_ok : TabOK Try.prog rt0 tb15 := (tabOf_cons (by kernel_rfl) sat_spec_newReader (tabOf_cons (by kernel_rfl) sat_spec_anyPath tabOf_nil))
set_option maxHeartbeats 4000000 in
theorem sat_spec_DrawReversePath_0 : Sat Try.prog rt0 15 (wkOut spDRO) := by
  refine fn_sat hm ttok (tab := tb15) tb15_ok Try.func15 (c := Try.f15.body.getD .skip) (by kernel_rfl) (ts := [.tmp 2]) (by kernel_rfl) Try.ntmps15 (sq := fun _ => true) (by kernel_rfl) ?_
  intro args ins pk hpre0 hpk
  obtain ⟨rfl, hpre0⟩ := hpre0
  obtain ⟨code, rfl, hpre, hdec⟩ := famPre_ex hpre0
  clear hpre0 hdec
  try simp only [spDRO_pre] at hpre
  replace hpk : pk + 230 ≤ pickLimit := hpk
  refine ⟨Nat.le_of_ble_eq_true rfl, ?_⟩
  simp (config := { maxSteps := 1000000 }) only [go_sem, ↓ifP_true, ↓ifP_false, ↓ifP_not, Nat.reduceLT, Nat.reduceAdd, Nat.reduceBEq, Nat.reduceSub, Nat.reduceLeDiff, Nat.reduceEqDiff, Nat.reduceMul, Int.reduceToNat, Int.reduceEq, Int.reduceLT, Int.reduceLE, Int.reduceAdd, Int.reduceSub, Int.reduceMul, reduceCtorEq, cond_true, cond_false, forall_eq', forall_eq, forall_const, implies_true, if_true, if_false, exists_eq_left', exists_eq', exists_eq, ne_eq, Try.f15, tb15_46, tb15_45, spDRO_q, spDRO_A, spDRO_pre, spDRO_post, spNew_q, spAPath_q, spAPath_A, spAPath_pre, spAPath_post]
  repeat' (first | apply And.intro | (intro _) | omega | assumption | with_reducible rfl)
  all_goals (first | (exact ⟨_, _, rfl, rfl, hpre⟩; done) | (exact ⟨_, rfl, rfl, by assumption, by assumption⟩; done))
theorem sat_spec_DrawReversePath : Sat Try.prog rt0 15 (wkIn spDRO) := sat_in (sat_out sat_spec_DrawReversePath_0)
end Go.Proofs.Ytdkfamajaopgoaa
end
