/- Contracts of functions of the program vectorraster, each proved for all states that fit its description. No conditions. -/
import Derived.Test.YtcejoknapbhloaaP6CM
import Derived.Test.YtcejoknapbhloaaP2
import Derived.Test.YtcejoknapbhloaaPH
import Derived.Test.YtcejoknapbhloaaPJ
import Derived.Test.YtcejoknapbhloaaPE
set_option maxRecDepth 100000
set_option linter.unusedSimpArgs false
set_option linter.unusedVariables false
namespace Go.Proofs.Ytcejoknapbhloaa
open Go Go.VE
def spDCR_A : (List UInt8) → List AV
  | code => [.c (.sl false (byC code))]
def spDCR_pre : (List UInt8) → Prop
  | code => code.length ≤ 1048576
def spDCR_post : (List UInt8) → AV → List Box → Prop
  | code, r, bs => ∃ L w, r = .tup [.c (.sl false (L.map lptC)), I w] ∧ bs = [] ∧ (L.length ≤ 9 ∧ total L ≤ 210 ∧ okLL L)
def spDCR : VE.Spec := famSpecS spDCR_A d_ly spDCR_pre spDCR_post 190 false
theorem spDCR_q : spDCR.flat = false ∧ spDCR.mt = [] ∧ spDCR.shut = true ∧ spDCR.cost = 190 ∧ (∀ a i, spDCR.pre a i = (i = [] ∧ famPre d_ly spDCR_A spDCR_pre a)) ∧ ∀ a i r b, spDCR.post a i r b = (famPost d_ly spDCR_post a r b) := ⟨rfl, rfl, rfl, rfl, fun _ _ => rfl, fun _ _ _ _ => rfl⟩
def tb10 : Nat → Option VE.Spec := tabOf [(26, wkIn spNew), (27, wkIn spARings), (28, wkIn spRow)]
theorem tb10_26 : tb10 26 = some (wkIn spNew) := rfl
theorem tb10_27 : tb10 27 = some (wkIn spARings) := rfl
theorem tb10_28 : tb10 28 = some (wkIn spRow) := rfl
theorem tb10_ok : TabOK Try.prog rt0 tb10 := (tabOf_cons (by kernel_rfl) sat_spec_newReader (tabOf_cons (by kernel_rfl) sat_spec_anyRings (tabOf_cons (by kernel_rfl) sat_spec_anyRow tabOf_nil)))
set_option maxHeartbeats 4000000 in
theorem sat_spec_DrawCrossesOf_0 : Sat Try.prog rt0 10 (wkOut spDCR) := by
  refine fn_sat hm ttok (tab := tb10) tb10_ok Try.func10 (c := Try.f10.body.getD .skip) (by kernel_rfl) (ts := [.tmp 2, .tmp 3]) (by kernel_rfl) Try.ntmps10 (sq := fun _ => true) (by kernel_rfl) ?_
  intro args ins pk hpre0 hpk
  obtain ⟨rfl, hpre0⟩ := hpre0
  obtain ⟨code, rfl, hpre, hdec⟩ := famPre_ex hpre0
  clear hpre0 hdec
  try simp only [spDCR_pre] at hpre
  replace hpk : pk + 190 ≤ pickLimit := hpk
  refine ⟨Nat.le_of_ble_eq_true rfl, ?_⟩
  simp (config := { maxSteps := 1000000 }) only [go_sem, ↓ifP_true, ↓ifP_false, ↓ifP_not, Nat.reduceLT, Nat.reduceAdd, Nat.reduceBEq, Nat.reduceSub, Nat.reduceLeDiff, Nat.reduceEqDiff, Nat.reduceMul, Int.reduceToNat, Int.reduceEq, Int.reduceLT, Int.reduceLE, Int.reduceAdd, Int.reduceSub, Int.reduceMul, reduceCtorEq, cond_true, cond_false, forall_eq', forall_eq, forall_const, implies_true, if_true, if_false, exists_eq_left', exists_eq', exists_eq, ne_eq, Try.f10, tb10_26, tb10_27, tb10_28, spDCR_q, spDCR_A, spDCR_pre, spDCR_post, spNew_q, spARings_q, spARings_A, spARings_pre, spARings_post, spRow_q, spRow_A, spRow_pre, spRow_post]
  repeat' (first | apply And.intro | (intro _) | omega | assumption | with_reducible rfl)
  all_goals (first | (exact ⟨_, _, rfl, rfl, hpre⟩; done) | (exact ⟨_, _, rfl, rfl, by assumption, by assumption, by assumption⟩; done))
theorem sat_spec_DrawCrossesOf : Sat Try.prog rt0 10 (wkIn spDCR) := sat_in (sat_out sat_spec_DrawCrossesOf_0)
def spDSO_A : (List UInt8) → List AV
  | code => [.c (.sl false (byC code))]
def spDSO_pre : (List UInt8) → Prop
  | code => code.length ≤ 1048576
def spDSO_post : (List UInt8) → AV → List Box → Prop
  | code, r, bs => ∃ L rl w, r = .tup [.c (.sl false (L.map lptC)), I rl, I w] ∧ bs = [] ∧ (L.length ≤ 9 ∧ total L ≤ 210 ∧ okLL L)
def spDSO : VE.Spec := famSpecS spDSO_A d_ly spDSO_pre spDSO_post 190 false
theorem spDSO_q : spDSO.flat = false ∧ spDSO.mt = [] ∧ spDSO.shut = true ∧ spDSO.cost = 190 ∧ (∀ a i, spDSO.pre a i = (i = [] ∧ famPre d_ly spDSO_A spDSO_pre a)) ∧ ∀ a i r b, spDSO.post a i r b = (famPost d_ly spDSO_post a r b) := ⟨rfl, rfl, rfl, rfl, fun _ _ => rfl, fun _ _ _ _ => rfl⟩
def tb22 : Nat → Option VE.Spec := tabOf [(26, wkIn spNew), (27, wkIn spARings), (37, wkIn spRule), (28, wkIn spRow)]
theorem tb22_26 : tb22 26 = some (wkIn spNew) := rfl
theorem tb22_27 : tb22 27 = some (wkIn spARings) := rfl
theorem tb22_37 : tb22 37 = some (wkIn spRule) := rfl
theorem tb22_28 : tb22 28 = some (wkIn spRow) := rfl
theorem tb22_ok : TabOK Try.prog rt0 tb22 := (tabOf_cons (by kernel_rfl) sat_spec_newReader (tabOf_cons (by kernel_rfl) sat_spec_anyRings (tabOf_cons (by kernel_rfl) sat_spec_anyRule (tabOf_cons (by kernel_rfl) sat_spec_anyRow tabOf_nil))))
set_option maxHeartbeats 4000000 in
theorem sat_spec_DrawSpansOf_0 : Sat Try.prog rt0 22 (wkOut spDSO) := by
  refine fn_sat hm ttok (tab := tb22) tb22_ok Try.func22 (c := Try.f22.body.getD .skip) (by kernel_rfl) (ts := [.tmp 2, .tmp 3, .tmp 4]) (by kernel_rfl) Try.ntmps22 (sq := fun _ => true) (by kernel_rfl) ?_
  intro args ins pk hpre0 hpk
  obtain ⟨rfl, hpre0⟩ := hpre0
  obtain ⟨code, rfl, hpre, hdec⟩ := famPre_ex hpre0
  clear hpre0 hdec
  try simp only [spDSO_pre] at hpre
  replace hpk : pk + 190 ≤ pickLimit := hpk
  refine ⟨Nat.le_of_ble_eq_true rfl, ?_⟩
  simp (config := { maxSteps := 1000000 }) only [go_sem, ↓ifP_true, ↓ifP_false, ↓ifP_not, Nat.reduceLT, Nat.reduceAdd, Nat.reduceBEq, Nat.reduceSub, Nat.reduceLeDiff, Nat.reduceEqDiff, Nat.reduceMul, Int.reduceToNat, Int.reduceEq, Int.reduceLT, Int.reduceLE, Int.reduceAdd, Int.reduceSub, Int.reduceMul, reduceCtorEq, cond_true, cond_false, forall_eq', forall_eq, forall_const, implies_true, if_true, if_false, exists_eq_left', exists_eq', exists_eq, ne_eq, Try.f22, tb22_26, tb22_27, tb22_37, tb22_28, spDSO_q, spDSO_A, spDSO_pre, spDSO_post, spNew_q, spARings_q, spARings_A, spARings_pre, spARings_post, spRule_q, spRule_A, spRule_pre, spRule_post, spRow_q, spRow_A, spRow_pre, spRow_post]
  repeat' (first | apply And.intro | (intro _) | omega | assumption | with_reducible rfl)
  all_goals (first | (exact ⟨_, _, rfl, rfl, hpre⟩; done) | (exact ⟨_, _, _, rfl, rfl, rfl, by assumption, by assumption, by assumption⟩; done))
theorem sat_spec_DrawSpansOf : Sat Try.prog rt0 22 (wkIn spDSO) := sat_in (sat_out sat_spec_DrawSpansOf_0)
def spEqX_A : (List Cross) × (List Cross) → List AV
  | (a, b) => [.c (.sl false (a.map crC)), .c (.sl false (b.map crC))]
def spEqX_pre : (List Cross) × (List Cross) → Prop
  | (a, b) => a.length ≤ 1000000000 ∧ b.length ≤ 1000000000
def spEqX_post : (List Cross) × (List Cross) → AV → List Box → Prop
  | (a, b), r, bs => r = B (decide (a = b)) ∧ bs = []
def spEqX : VE.Spec := famSpec spEqX_A d_lcr_lcr spEqX_pre spEqX_post 0 true
theorem spEqX_q : spEqX.flat = true ∧ spEqX.mt = [] ∧ spEqX.shut = false ∧ spEqX.cost = 0 ∧ (∀ a i, spEqX.pre a i = (i = [] ∧ famPre d_lcr_lcr spEqX_A spEqX_pre a)) ∧ ∀ a i r b, spEqX.post a i r b = (famPost d_lcr_lcr spEqX_post a r b) := ⟨rfl, rfl, rfl, rfl, fun _ _ => rfl, fun _ _ _ _ => rfl⟩
def tb12 : Nat → Option VE.Spec := tabOf []
theorem tb12_ok : TabOK Try.prog rt0 tb12 := tabOf_nil
set_option maxHeartbeats 4000000 in
theorem sat_laws_equalCrosses_0 : Sat Try.prog rt0 12 (wkOut spEqX) := by
  refine fn_sat hm ttok (tab := tb12) tb12_ok Try.func12 (c := Try.f12.body.getD .skip) (by kernel_rfl) (ts := [.tmp 4]) (by kernel_rfl) Try.ntmps12 (sq := fun _ => true) (by kernel_rfl) ?_
  intro args ins pk hpre0 hpk
  obtain ⟨rfl, hpre0⟩ := hpre0
  obtain ⟨⟨a, b⟩, rfl, hpre, hdec⟩ := famPre_ex hpre0
  clear hpre0 hdec
  try simp only [spEqX_pre] at hpre
  replace hpk : pk + 0 ≤ pickLimit := hpk
  refine ⟨Nat.le_of_ble_eq_true rfl, ?_⟩
  simp (config := { maxSteps := 1000000 }) only [go_sem, ↓ifP_true, ↓ifP_false, ↓ifP_not, Nat.reduceLT, Nat.reduceAdd, Nat.reduceBEq, Nat.reduceSub, Nat.reduceLeDiff, Nat.reduceEqDiff, Nat.reduceMul, Int.reduceToNat, Int.reduceEq, Int.reduceLT, Int.reduceLE, Int.reduceAdd, Int.reduceSub, Int.reduceMul, reduceCtorEq, cond_true, cond_false, forall_eq', forall_eq, forall_const, implies_true, if_true, if_false, exists_eq_left', exists_eq', exists_eq, ne_eq, Try.f12, spEqX_q, spEqX_A, spEqX_pre, spEqX_post]
  repeat' (first | apply And.intro | (intro _) | omega | assumption | with_reducible rfl)
  any_goals
    refine loopS (α := Int) false [2, 3, 4, 5, 6, 7, 8, 9, 10, 11, 12, 13, 14, 15, 16, 17, 18, 19, 20, 21, 22, 23, 24, 25] (fun σ => []) (fun σ x => [(5, I x)]) (fun σ x => []) (fun i => 0) (fun σ => gI (σ.get 5)) (fun σ τ => []) (fun i => 0 ≤ i ∧ i ≤ a.length ∧ a.take i.toNat = b.take i.toNat) (fun i => (a.length - i).toNat) ⟨by (simp (config := { maxSteps := 1000000 }) only [go_sem, ↓ifP_true, ↓ifP_false, ↓ifP_not, Nat.reduceLT, Nat.reduceAdd, Nat.reduceBEq, Nat.reduceSub, Nat.reduceLeDiff, Nat.reduceEqDiff, Nat.reduceMul, Int.reduceToNat, Int.reduceEq, Int.reduceLT, Int.reduceLE, Int.reduceAdd, Int.reduceSub, Int.reduceMul, reduceCtorEq, cond_true, cond_false, forall_eq', forall_eq, forall_const, implies_true, if_true, if_false, exists_eq_left', exists_eq', exists_eq, ne_eq, Try.f12, spEqX_q, spEqX_A, spEqX_pre, spEqX_post]; (repeat' (first | apply And.intro | (intro _) | omega | assumption | with_reducible rfl)); all_goals (first | rfl)), ?_⟩
    rintro i hinv
    try dsimp only at hinv
    simp (config := { maxSteps := 1000000 }) only [go_sem, ↓ifP_true, ↓ifP_false, ↓ifP_not, Nat.reduceLT, Nat.reduceAdd, Nat.reduceBEq, Nat.reduceSub, Nat.reduceLeDiff, Nat.reduceEqDiff, Nat.reduceMul, Int.reduceToNat, Int.reduceEq, Int.reduceLT, Int.reduceLE, Int.reduceAdd, Int.reduceSub, Int.reduceMul, reduceCtorEq, cond_true, cond_false, forall_eq', forall_eq, forall_const, implies_true, if_true, if_false, exists_eq_left', exists_eq', exists_eq, ne_eq, Try.f12, spEqX_q, spEqX_A, spEqX_pre, spEqX_post]
    repeat' (first | apply And.intro | (intro _) | omega | assumption | with_reducible rfl)
  
  all_goals (first | (exact eqL_step ‹_› ‹_› ‹_› hinv.1 hinv.2.2; done) | (exact (decide_eq_false (eqL_no ‹_› ‹_› ‹_›)).symm; done) | (exact (decide_eq_true (eqL_end ‹_› ‹_› hinv.2.2)).symm; done) | (exact (decide_eq_false (eqL_len ‹_›)).symm; done) | (skip; done))
theorem sat_laws_equalCrosses : Sat Try.prog rt0 12 (wkIn spEqX) := sat_in (sat_out sat_laws_equalCrosses_0)
def spEqS_A : (List Span) × (List Span) → List AV
  | (a, b) => [.c (.sl false (a.map spC)), .c (.sl false (b.map spC))]
def spEqS_pre : (List Span) × (List Span) → Prop
  | (a, b) => a.length ≤ 1000000000 ∧ b.length ≤ 1000000000
def spEqS_post : (List Span) × (List Span) → AV → List Box → Prop
  | (a, b), r, bs => r = B (decide (a = b)) ∧ bs = []
def spEqS : VE.Spec := famSpec spEqS_A d_lsp_lsp spEqS_pre spEqS_post 0 true
theorem spEqS_q : spEqS.flat = true ∧ spEqS.mt = [] ∧ spEqS.shut = false ∧ spEqS.cost = 0 ∧ (∀ a i, spEqS.pre a i = (i = [] ∧ famPre d_lsp_lsp spEqS_A spEqS_pre a)) ∧ ∀ a i r b, spEqS.post a i r b = (famPost d_lsp_lsp spEqS_post a r b) := ⟨rfl, rfl, rfl, rfl, fun _ _ => rfl, fun _ _ _ _ => rfl⟩
def tb23 : Nat → Option VE.Spec := tabOf []
theorem tb23_ok : TabOK Try.prog rt0 tb23 := tabOf_nil
set_option maxHeartbeats 4000000 in
theorem sat_laws_equalSpans_0 : Sat Try.prog rt0 23 (wkOut spEqS) := by
  refine fn_sat hm ttok (tab := tb23) tb23_ok Try.func23 (c := Try.f23.body.getD .skip) (by kernel_rfl) (ts := [.tmp 4]) (by kernel_rfl) Try.ntmps23 (sq := fun _ => true) (by kernel_rfl) ?_
  intro args ins pk hpre0 hpk
  obtain ⟨rfl, hpre0⟩ := hpre0
  obtain ⟨⟨a, b⟩, rfl, hpre, hdec⟩ := famPre_ex hpre0
  clear hpre0 hdec
  try simp only [spEqS_pre] at hpre
  replace hpk : pk + 0 ≤ pickLimit := hpk
  refine ⟨Nat.le_of_ble_eq_true rfl, ?_⟩
  simp (config := { maxSteps := 1000000 }) only [go_sem, ↓ifP_true, ↓ifP_false, ↓ifP_not, Nat.reduceLT, Nat.reduceAdd, Nat.reduceBEq, Nat.reduceSub, Nat.reduceLeDiff, Nat.reduceEqDiff, Nat.reduceMul, Int.reduceToNat, Int.reduceEq, Int.reduceLT, Int.reduceLE, Int.reduceAdd, Int.reduceSub, Int.reduceMul, reduceCtorEq, cond_true, cond_false, forall_eq', forall_eq, forall_const, implies_true, if_true, if_false, exists_eq_left', exists_eq', exists_eq, ne_eq, Try.f23, spEqS_q, spEqS_A, spEqS_pre, spEqS_post]
  repeat' (first | apply And.intro | (intro _) | omega | assumption | with_reducible rfl)
  any_goals
    refine loopS (α := Int) false [2, 3, 4, 5, 6, 7, 8, 9, 10, 11, 12, 13, 14, 15, 16, 17, 18, 19, 20, 21, 22, 23, 24, 25] (fun σ => []) (fun σ x => [(5, I x)]) (fun σ x => []) (fun i => 0) (fun σ => gI (σ.get 5)) (fun σ τ => []) (fun i => 0 ≤ i ∧ i ≤ a.length ∧ a.take i.toNat = b.take i.toNat) (fun i => (a.length - i).toNat) ⟨by (simp (config := { maxSteps := 1000000 }) only [go_sem, ↓ifP_true, ↓ifP_false, ↓ifP_not, Nat.reduceLT, Nat.reduceAdd, Nat.reduceBEq, Nat.reduceSub, Nat.reduceLeDiff, Nat.reduceEqDiff, Nat.reduceMul, Int.reduceToNat, Int.reduceEq, Int.reduceLT, Int.reduceLE, Int.reduceAdd, Int.reduceSub, Int.reduceMul, reduceCtorEq, cond_true, cond_false, forall_eq', forall_eq, forall_const, implies_true, if_true, if_false, exists_eq_left', exists_eq', exists_eq, ne_eq, Try.f23, spEqS_q, spEqS_A, spEqS_pre, spEqS_post]; (repeat' (first | apply And.intro | (intro _) | omega | assumption | with_reducible rfl)); all_goals (first | rfl)), ?_⟩
    rintro i hinv
    try dsimp only at hinv
    simp (config := { maxSteps := 1000000 }) only [go_sem, ↓ifP_true, ↓ifP_false, ↓ifP_not, Nat.reduceLT, Nat.reduceAdd, Nat.reduceBEq, Nat.reduceSub, Nat.reduceLeDiff, Nat.reduceEqDiff, Nat.reduceMul, Int.reduceToNat, Int.reduceEq, Int.reduceLT, Int.reduceLE, Int.reduceAdd, Int.reduceSub, Int.reduceMul, reduceCtorEq, cond_true, cond_false, forall_eq', forall_eq, forall_const, implies_true, if_true, if_false, exists_eq_left', exists_eq', exists_eq, ne_eq, Try.f23, spEqS_q, spEqS_A, spEqS_pre, spEqS_post]
    repeat' (first | apply And.intro | (intro _) | omega | assumption | with_reducible rfl)
  
  all_goals (first | (exact eqL_step ‹_› ‹_› ‹_› hinv.1 hinv.2.2; done) | (exact (decide_eq_false (eqL_no ‹_› ‹_› ‹_›)).symm; done) | (exact (decide_eq_true (eqL_end ‹_› ‹_› hinv.2.2)).symm; done) | (exact (decide_eq_false (eqL_len ‹_›)).symm; done) | (skip; done))
theorem sat_laws_equalSpans : Sat Try.prog rt0 23 (wkIn spEqS) := sat_in (sat_out sat_laws_equalSpans_0)
theorem crV_le (L : List (List Pt)) (w : Int) : (crV L w).length ≤ 1000000000 := Nat.le_trans (crV_len L w) (by decide)
theorem crV_fall {L : List (List Pt)} {w i : Int} {p q : Cross} (h : p.a < q.a) (h0 : 0 < i) (hp : (crV L w)[i.toNat]? = some p) (hq : (crV L w)[(i - 1).toNat]? = some q) : False := by
  obtain ⟨h1, rfl⟩ := List.getElem?_eq_some_iff.1 hp
  obtain ⟨h2, rfl⟩ := List.getElem?_eq_some_iff.1 hq
  have := List.pairwise_iff_getElem.1 (crV_ord L w).h (i - 1).toNat i.toNat h2 h1 (by omega)
  rw [leC_iff] at this
  omega
theorem spV_fall {L : List (List Pt)} {rl w i : Int} {p q : Span} (h : p.f ≤ q.t) (h0 : 0 < i) (hp : (spV L rl w)[i.toNat]? = some p) (hq : (spV L rl w)[(i - 1).toNat]? = some q) : False := by
  have := spV_gap h0 hp hq
  omega
theorem spV_le (L : List (List Pt)) (rl w : Int) : (spV L rl w).length ≤ 1000000000 := Nat.le_trans (spV_len L rl w) (by decide)
end Go.Proofs.Ytcejoknapbhloaa
