/- Contracts of functions of the program vectorraster, each proved for all states that fit its description. No conditions. -/
import Derived.Test.YtcejoknapbhloaaPD
import Derived.Test.YtcejoknapbhloaaPE
import Derived.Test.YtcejoknapbhloaaKK
import Derived.Test.YtcejoknapbhloaaPG
set_option linter.unusedSimpArgs false
set_option linter.unusedVariables false
section
set_option maxRecDepth 100000
set_option linter.unusedSimpArgs false
set_option linter.unusedVariables false
namespace Go.Proofs.Ytcejoknapbhloaa
open Go Go.VE
theorem nPts_app (a b : List Verb) : nPts (a ++ b) = nPts a + nPts b := by simp [nPts]
theorem vb_map (a : List Verb) (k : Int) (b : List Pt) : a.map vbC ++ [[C.v (.int .i64 k), C.sl false (b.map ptC)]] = (a ++ [(⟨k, b⟩ : Verb)]).map vbC := by rw [List.map_append]; rfl
theorem vPath_pts {p : List Verb} (h : vPath p = true) : nPts p ≤ 40 := by
  simp only [vPath, Bool.and_eq_true, decide_eq_true_eq] at h; exact h.2
def spAPath_A : Unit → List AV
  | () => [.c .rdr]
def spAPath_pre : Unit → Prop
  | () => True
def spAPath_post : Unit → AV → List Box → Prop
  | (), r, bs => ∃ p, r = .c (.own 0 p.length false) ∧ bs = [⟨p.map vbC, 2, 91, true, false⟩] ∧ p.length ≤ 31 ∧ nPts p ≤ 100
def spAPath : VE.Spec := famSpec spAPath_A d_r spAPath_pre spAPath_post 220 false
theorem spAPath_q : spAPath.flat = false ∧ spAPath.mt = [] ∧ spAPath.shut = false ∧ spAPath.cost = 220 ∧ (∀ a i, spAPath.pre a i = (i = [] ∧ famPre d_r spAPath_A spAPath_pre a)) ∧ ∀ a i r b, spAPath.post a i r b = (famPost d_r spAPath_post a r b) := ⟨rfl, rfl, rfl, rfl, fun _ _ => rfl, fun _ _ _ _ => rfl⟩
end Go.Proofs.Ytcejoknapbhloaa
end
section
set_option maxRecDepth 100000
set_option linter.unusedSimpArgs false
set_option linter.unusedVariables false
namespace Go.Proofs.Ytcejoknapbhloaa
open Go Go.VE
def spDWA_A : (List UInt8) → List AV
  | code => [.c (.sl false (byC code))]
def spDWA_pre : (List UInt8) → Prop
  | code => code.length ≤ 1048576
def spDWA_post : (List UInt8) → AV → List Box → Prop
  | code, r, bs => ∃ L x y, r = .tup [.c (.sl false (L.map lptC)), I x, I y] ∧ bs = [] ∧ (L.length ≤ 9 ∧ total L ≤ 210 ∧ okLL L) ∧ okP ⟨x, y⟩
def spDWA : VE.Spec := famSpecS spDWA_A d_ly spDWA_pre spDWA_post 190 false
theorem spDWA_q : spDWA.flat = false ∧ spDWA.mt = [] ∧ spDWA.shut = true ∧ spDWA.cost = 190 ∧ (∀ a i, spDWA.pre a i = (i = [] ∧ famPre d_ly spDWA_A spDWA_pre a)) ∧ ∀ a i r b, spDWA.post a i r b = (famPost d_ly spDWA_post a r b) := ⟨rfl, rfl, rfl, rfl, fun _ _ => rfl, fun _ _ _ _ => rfl⟩
def spDIA_A : (List UInt8) → List AV
  | code => [.c (.sl false (byC code))]
def spDIA_pre : (List UInt8) → Prop
  | code => code.length ≤ 1048576
def spDIA_post : (List UInt8) → AV → List Box → Prop
  | code, r, bs => ∃ L rl x y, r = .tup [.c (.sl false (L.map lptC)), I rl, I x, I y] ∧ bs = [] ∧ (L.length ≤ 9 ∧ total L ≤ 210 ∧ okLL L) ∧ okP ⟨x, y⟩
def spDIA : VE.Spec := famSpecS spDIA_A d_ly spDIA_pre spDIA_post 190 false
theorem spDIA_q : spDIA.flat = false ∧ spDIA.mt = [] ∧ spDIA.shut = true ∧ spDIA.cost = 190 ∧ (∀ a i, spDIA.pre a i = (i = [] ∧ famPre d_ly spDIA_A spDIA_pre a)) ∧ ∀ a i r b, spDIA.post a i r b = (famPost d_ly spDIA_post a r b) := ⟨rfl, rfl, rfl, rfl, fun _ _ => rfl, fun _ _ _ _ => rfl⟩
def spDCO_A : (List UInt8) → List AV
  | code => [.c (.sl false (byC code))]
def spDCO_pre : (List UInt8) → Prop
  | code => code.length ≤ 1048576
def spDCO_post : (List UInt8) → AV → List Box → Prop
  | code, r, bs => ∃ L rl c w, r = .tup [.c (.sl false (L.map lptC)), I rl, I c, I w] ∧ bs = [] ∧ (L.length ≤ 9 ∧ total L ≤ 210 ∧ okLL L)
def spDCO : VE.Spec := famSpecS spDCO_A d_ly spDCO_pre spDCO_post 190 false
theorem spDCO_q : spDCO.flat = false ∧ spDCO.mt = [] ∧ spDCO.shut = true ∧ spDCO.cost = 190 ∧ (∀ a i, spDCO.pre a i = (i = [] ∧ famPre d_ly spDCO_A spDCO_pre a)) ∧ ∀ a i r b, spDCO.post a i r b = (famPost d_ly spDCO_post a r b) := ⟨rfl, rfl, rfl, rfl, fun _ _ => rfl, fun _ _ _ _ => rfl⟩
def tb17 : Nat → Option VE.Spec := tabOf [(26, wkIn spNew), (27, wkIn spARings), (37, wkIn spRule), (38, wkIn spPlace)]
theorem tb17_26 : tb17 26 = some (wkIn spNew) := rfl
theorem tb17_27 : tb17 27 = some (wkIn spARings) := rfl
theorem tb17_37 : tb17 37 = some (wkIn spRule) := rfl
theorem tb17_38 : tb17 38 = some (wkIn spPlace) := rfl
theorem tb17_ok : TabOK Try.prog rt0 tb17 := (tabOf_cons (by kernel_rfl) sat_spec_newReader (tabOf_cons (by kernel_rfl) sat_spec_anyRings (tabOf_cons (by kernel_rfl) sat_spec_anyRule (tabOf_cons (by kernel_rfl) sat_spec_anyPlace tabOf_nil))))
set_option maxHeartbeats 4000000 in
theorem sat_spec_DrawCoverOf_0 : Sat Try.prog rt0 17 (wkOut spDCO) := by
  refine fn_sat hm ttok (tab := tb17) tb17_ok Try.func17 (c := Try.f17.body.getD .skip) (by kernel_rfl) (ts := [.tmp 2, .tmp 3, .tmp 4, .tmp 5]) (by kernel_rfl) Try.ntmps17 (sq := fun _ => true) (by kernel_rfl) ?_
  intro args ins pk hpre0 hpk
  obtain ⟨rfl, hpre0⟩ := hpre0
  obtain ⟨code, rfl, hpre, hdec⟩ := famPre_ex hpre0
  clear hpre0 hdec
  try simp only [spDCO_pre] at hpre
  replace hpk : pk + 190 ≤ pickLimit := hpk
  refine ⟨Nat.le_of_ble_eq_true rfl, ?_⟩
  simp (config := { maxSteps := 1000000 }) only [go_sem, ↓ifP_true, ↓ifP_false, ↓ifP_not, Nat.reduceLT, Nat.reduceAdd, Nat.reduceBEq, Nat.reduceSub, Nat.reduceLeDiff, Nat.reduceEqDiff, Nat.reduceMul, Int.reduceToNat, Int.reduceEq, Int.reduceLT, Int.reduceLE, Int.reduceAdd, Int.reduceSub, Int.reduceMul, reduceCtorEq, cond_true, cond_false, forall_eq', forall_eq, forall_const, implies_true, if_true, if_false, exists_eq_left', exists_eq', exists_eq, ne_eq, Try.f17, tb17_26, tb17_27, tb17_37, tb17_38, spDCO_q, spDCO_A, spDCO_pre, spDCO_post, spNew_q, spARings_q, spARings_A, spARings_pre, spARings_post, spRule_q, spRule_A, spRule_pre, spRule_post, spPlace_q, spPlace_A, spPlace_pre, spPlace_post]
  repeat' (first | apply And.intro | (intro _) | omega | assumption | with_reducible rfl)
  all_goals (first | (exact ⟨_, _, rfl, rfl, hpre⟩; done) | (exact ⟨_, _, _, _, rfl, rfl, rfl, rfl, by assumption, by assumption, by assumption⟩; done))
theorem sat_spec_DrawCoverOf : Sat Try.prog rt0 17 (wkIn spDCO) := sat_in (sat_out sat_spec_DrawCoverOf_0)
def spDEI_A : (List UInt8) → List AV
  | code => [.c (.sl false (byC code))]
def spDEI_pre : (List UInt8) → Prop
  | code => code.length ≤ 1048576
def spDEI_post : (List UInt8) → AV → List Box → Prop
  | code, r, bs => ∃ L w h t, r = .tup [.c (.sl false (L.map lptC)), I w, I h, I t] ∧ bs = [] ∧ (L.length ≤ 9 ∧ total L ≤ 210 ∧ okLL L)
def spDEI : VE.Spec := famSpecS spDEI_A d_ly spDEI_pre spDEI_post 190 false
theorem spDEI_q : spDEI.flat = false ∧ spDEI.mt = [] ∧ spDEI.shut = true ∧ spDEI.cost = 190 ∧ (∀ a i, spDEI.pre a i = (i = [] ∧ famPre d_ly spDEI_A spDEI_pre a)) ∧ ∀ a i r b, spDEI.post a i r b = (famPost d_ly spDEI_post a r b) := ⟨rfl, rfl, rfl, rfl, fun _ _ => rfl, fun _ _ _ _ => rfl⟩
end Go.Proofs.Ytcejoknapbhloaa
end
section
set_option maxRecDepth 100000
set_option linter.unusedSimpArgs false
set_option linter.unusedVariables false
namespace Go.Proofs.Ytcejoknapbhloaa
open Go Go.VE
def spLaw_A : (List UInt8) → List AV
  | code => [.c (.sl false (byC code))]
def spLaw_pre : (List UInt8) → Prop
  | code => True
def spLaw_post : (List UInt8) → AV → List Box → Prop
  | code, r, bs => r = B (true) ∧ bs = []
def spLaw : VE.Spec := famSpec spLaw_A d_ly spLaw_pre spLaw_post 100000 false
theorem spLaw_q : spLaw.flat = false ∧ spLaw.mt = [] ∧ spLaw.shut = false ∧ spLaw.cost = 100000 ∧ (∀ a i, spLaw.pre a i = (i = [] ∧ famPre d_ly spLaw_A spLaw_pre a)) ∧ ∀ a i r b, spLaw.post a i r b = (famPost d_ly spLaw_post a r b) := ⟨rfl, rfl, rfl, rfl, fun _ _ => rfl, fun _ _ _ _ => rfl⟩
end Go.Proofs.Ytcejoknapbhloaa
end
