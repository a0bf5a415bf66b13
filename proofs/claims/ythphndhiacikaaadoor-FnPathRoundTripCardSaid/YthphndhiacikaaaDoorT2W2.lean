/- Contracts of functions of the program vectorraster, each proved for all states that fit its description. No conditions. -/
import Derived.Test.YthphndhiacikaaaDoorPH
import Derived.Test.YthphndhiacikaaaDoorT2KY
set_option maxRecDepth 100000
set_option linter.unusedSimpArgs false
set_option linter.unusedVariables false
namespace Go.Proofs.YthphndhiacikaaaDoor
open Go Go.VE
def spDRO_A : (List UInt8) → List AV
  | code => [.c (.sl false (byC code))]
def spDRO_pre : (List UInt8) → Prop
  | code => code.length ≤ 1048576
def spDRO_post : (List UInt8) → AV → List Box → Prop
  | code, r, bs => ∃ p : List Verb, r = .c (.sl false (p.map vbC)) ∧ bs = [] ∧ p.length ≤ 31 ∧ nPts p ≤ 100
def spDRO : VE.Spec := famSpecS spDRO_A d_ly spDRO_pre spDRO_post 230 false
theorem spDRO_q : spDRO.flat = false ∧ spDRO.mt = [] ∧ spDRO.shut = true ∧ spDRO.cost = 230 ∧ (∀ a i, spDRO.pre a i = (i = [] ∧ famPre d_ly spDRO_A spDRO_pre a)) ∧ ∀ a i r b, spDRO.post a i r b = (famPost d_ly spDRO_post a r b) := ⟨rfl, rfl, rfl, rfl, fun _ _ => rfl, fun _ _ _ _ => rfl⟩
def tb11 : Nat → Option VE.Spec := tabOf [(26, wkIn spNew), (25, wkIn spAPath)]
theorem tb11_26 : tb11 26 = some (wkIn spNew) := rfl
theorem tb11_25 : tb11 25 = some (wkIn spAPath) := rfl
theorem tb11_ok : TabOK Tryd.prog rt0 tb11 := (tabOf_cons (by kernel_rfl) sat_spec_newReader (tabOf_cons (by kernel_rfl) sat_spec_anyPath tabOf_nil))
set_option maxHeartbeats 4000000 in
theorem sat_spec_DrawFormatPath_0 : Sat Tryd.prog rt0 11 (wkOut spDRO) := by
  refine fn_sat hm ttok (tab := tb11) tb11_ok Tryd.func11 (c := Tryd.f11.body.getD .skip) (by kernel_rfl) (ts := [.tmp 2]) (by kernel_rfl) Tryd.ntmps11 (sq := fun _ => true) (by kernel_rfl) ?_
  intro args ins pk hpre0 hpk
  obtain ⟨rfl, hpre0⟩ := hpre0
  obtain ⟨code, rfl, hpre, hdec⟩ := famPre_ex hpre0
  clear hpre0 hdec
  try simp only [spDRO_pre] at hpre
  replace hpk : pk + 230 ≤ pickLimit := hpk
  refine ⟨Nat.le_of_ble_eq_true rfl, ?_⟩
  simp (config := { maxSteps := 1000000 }) only [go_sem, ↓ifP_true, ↓ifP_false, ↓ifP_not, Nat.reduceLT, Nat.reduceAdd, Nat.reduceBEq, Nat.reduceSub, Nat.reduceLeDiff, Nat.reduceEqDiff, Nat.reduceMul, Int.reduceToNat, Int.reduceEq, Int.reduceLT, Int.reduceLE, Int.reduceAdd, Int.reduceSub, Int.reduceMul, reduceCtorEq, cond_true, cond_false, forall_eq', forall_eq, forall_const, implies_true, if_true, if_false, exists_eq_left', exists_eq', exists_eq, ne_eq, Tryd.f11, tb11_26, tb11_25, spDRO_q, spDRO_A, spDRO_pre, spDRO_post, spNew_q, spAPath_q, spAPath_A, spAPath_pre, spAPath_post]
  repeat' (first | apply And.intro | (intro _) | omega | assumption | with_reducible rfl)
  all_goals (first | (exact ⟨_, _, rfl, rfl, hpre⟩; done) | (exact ⟨_, rfl, rfl, by assumption, by assumption⟩; done))
theorem sat_spec_DrawFormatPath : Sat Tryd.prog rt0 11 (wkIn spDRO) := sat_in (sat_out sat_spec_DrawFormatPath_0)
end Go.Proofs.YthphndhiacikaaaDoor
