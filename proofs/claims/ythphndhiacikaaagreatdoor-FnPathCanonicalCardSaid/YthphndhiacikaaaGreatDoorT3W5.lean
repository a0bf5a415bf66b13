/- Contracts of functions of the program vectorraster, each proved for all states that fit its description. No conditions. -/
import Derived.Test.YthphndhiacikaaaGreatDoorT3W4
import Derived.Test.YthphndhiacikaaaGreatDoorPL
import Derived.Test.YthphndhiacikaaaGreatDoorT3Z9
import Derived.Test.YthphndhiacikaaaGreatDoorT3W1
import Derived.Test.YthphndhiacikaaaGreatDoorPH
set_option maxRecDepth 100000
set_option linter.unusedSimpArgs false
set_option linter.unusedVariables false
namespace Go.Proofs.YthphndhiacikaaaGreatDoor
open Go Go.VE
def spDPP_A : (List UInt8) → List AV
  | code => [.c (.sl false (byC code))]
def spDPP_pre : (List UInt8) → Prop
  | code => code.length ≤ 1048576
def spDPP_post : (List UInt8) → AV → List Box → Prop
  | code, r, bs => ∃ x : ByteArray, r = .c (.v (.string x)) ∧ bs = [] ∧ x.size ≤ 1000
def spDPP : VE.Spec := famSpec spDPP_A d_ly spDPP_pre spDPP_post 240 false
theorem spDPP_q : spDPP.flat = false ∧ spDPP.mt = [] ∧ spDPP.shut = false ∧ spDPP.cost = 240 ∧ (∀ a i, spDPP.pre a i = (i = [] ∧ famPre d_ly spDPP_A spDPP_pre a)) ∧ ∀ a i r b, spDPP.post a i r b = (famPost d_ly spDPP_post a r b) := ⟨rfl, rfl, rfl, rfl, fun _ _ => rfl, fun _ _ _ _ => rfl⟩
theorem fmtB_le {p : List Verb} : (fmtB p).size ≤ 840 := by
  unfold fmtB
  split
  · rename_i h; rw [mkB_size]; exact fmtL_len h
  · rw [mkB_size]; simp
theorem pp_few (x : List UInt8) : ((pp x).getD []).length ≤ 30 ∧ nPts ((pp x).getD []) ≤ 40 := by
  cases h : pp x with
  | none => simp [nPts]
  | some p => exact vPath_num (pp_some h).1
theorem pp_canon {x : ByteArray} (h : (pp (tx x)).isSome = true) : fmtB ((pp (tx x)).getD []) = x ∧ vPath ((pp (tx x)).getD []) = true := by
  cases hp : pp (tx x) with
  | none => rw [hp] at h; cases h
  | some p =>
    obtain ⟨h1, h2, _⟩ := pp_some hp
    refine ⟨?_, h1⟩
    show fmtB p = x
    rw [fmtB_ok h1, h2, mk_tx]
def tb8 : Nat → Option VE.Spec := tabOf [(20, wkIn spNew), (22, wkIn spAPath), (21, wkIn spFmt), (23, wkIn spPick), (24, wkIn spMut)]
theorem tb8_20 : tb8 20 = some (wkIn spNew) := rfl
theorem tb8_22 : tb8 22 = some (wkIn spAPath) := rfl
theorem tb8_21 : tb8 21 = some (wkIn spFmt) := rfl
theorem tb8_23 : tb8 23 = some (wkIn spPick) := rfl
theorem tb8_24 : tb8 24 = some (wkIn spMut) := rfl
theorem tb8_ok : TabOK Tryz.prog rt0 tb8 := (tabOf_cons (by kernel_rfl) sat_spec_newReader (tabOf_cons (by kernel_rfl) sat_spec_anyPath (tabOf_cons (by kernel_rfl) sat_spec_FormatPath (tabOf_cons (by kernel_rfl) sat_spec_reader_pick (tabOf_cons (by kernel_rfl) sat_spec_mutate tabOf_nil)))))
set_option maxHeartbeats 4000000 in
theorem sat_spec_DrawParsePath_0 : Sat Tryz.prog rt0 8 (wkOut spDPP) := by
  refine fn_sat hm ttok (tab := tb8) tb8_ok Tryz.func8 (c := Tryz.f8.body.getD .skip) (by kernel_rfl) (ts := [.tmp 2]) (by kernel_rfl) Tryz.ntmps8 (sq := fun _ => true) (by kernel_rfl) ?_
  intro args ins pk hpre0 hpk
  obtain ⟨rfl, hpre0⟩ := hpre0
  obtain ⟨code, rfl, hpre, hdec⟩ := famPre_ex hpre0
  clear hpre0 hdec
  try simp only [spDPP_pre] at hpre
  replace hpk : pk + 240 ≤ pickLimit := hpk
  refine ⟨Nat.le_of_ble_eq_true rfl, ?_⟩
  simp (config := { maxSteps := 1000000 }) only [go_sem, ↓ifP_true, ↓ifP_false, ↓ifP_not, Nat.reduceLT, Nat.reduceAdd, Nat.reduceBEq, Nat.reduceSub, Nat.reduceLeDiff, Nat.reduceEqDiff, Nat.reduceMul, Int.reduceToNat, Int.reduceEq, Int.reduceLT, Int.reduceLE, Int.reduceAdd, Int.reduceSub, Int.reduceMul, reduceCtorEq, cond_true, cond_false, forall_eq', forall_eq, forall_const, implies_true, if_true, if_false, exists_eq_left', exists_eq', exists_eq, ne_eq, Tryz.f8, tb8_20, tb8_22, tb8_21, tb8_23, tb8_24, spDPP_q, spDPP_A, spDPP_pre, spDPP_post, spNew_q, spAPath_q, spAPath_A, spAPath_pre, spAPath_post, spFmt_q, spFmt_A, spFmt_pre, spFmt_post, spPick_q, spPick_A, spPick_pre, spPick_post, spMut_q, spMut_A, spMut_pre, spMut_post, Picks]
  repeat' (first | apply And.intro | (intro _) | omega | assumption | with_reducible rfl)
  all_goals (first | (omega; done) | (exact ⟨_, _, rfl, rfl, hpre⟩; done) | (exact ⟨_, rfl, by have h9 := fmtB_le (p := ‹List Verb›); omega⟩; done) | ((have h9 := fmtB_le (p := ‹List Verb›); omega); done) | ((exact ⟨_, rfl, by omega⟩); done) | (skip; done))
theorem sat_spec_DrawParsePath : Sat Tryz.prog rt0 8 (wkIn spDPP) := sat_in (sat_out sat_spec_DrawParsePath_0)
def tb3 : Nat → Option VE.Spec := tabOf [(8, wkIn spDPP), (9, wkIn spPP), (10, wkIn spPP), (11, wkIn spEqV), (12, wkIn spFmt), (13, wkIn spVPath)]
theorem tb3_8 : tb3 8 = some (wkIn spDPP) := rfl
theorem tb3_9 : tb3 9 = some (wkIn spPP) := rfl
theorem tb3_10 : tb3 10 = some (wkIn spPP) := rfl
theorem tb3_11 : tb3 11 = some (wkIn spEqV) := rfl
theorem tb3_12 : tb3 12 = some (wkIn spFmt) := rfl
theorem tb3_13 : tb3 13 = some (wkIn spVPath) := rfl
theorem tb3_ok : TabOK Tryz.prog rt0 tb3 := (tabOf_cons (by kernel_rfl) sat_spec_DrawParsePath (tabOf_cons (by kernel_rfl) sat_impl_ParsePath (tabOf_cons (by kernel_rfl) sat_spec_ParsePath (tabOf_cons (by kernel_rfl) sat_laws_equalPath (tabOf_cons (by kernel_rfl) sat_impl_FormatPath (tabOf_cons (by kernel_rfl) sat_impl_ValidPath tabOf_nil))))))
set_option maxHeartbeats 4000000 in
theorem sat_laws_FnPathCanonical_0 : Sat Tryz.prog rt0 3 spLaw := by
  refine fn_sat hm ttok (tab := tb3) tb3_ok Tryz.func3 (c := Tryz.f3.body.getD .skip) (by kernel_rfl) (ts := [.tmp 2]) (by kernel_rfl) Tryz.ntmps3 (sq := fun _ => true) (by kernel_rfl) ?_
  intro args ins pk hpre0 hpk
  obtain ⟨rfl, hpre0⟩ := hpre0
  obtain ⟨code, rfl, hpre, hdec⟩ := famPre_ex hpre0
  clear hpre0 hdec
  try simp only [spLaw_pre] at hpre
  replace hpk : pk + 100000 ≤ pickLimit := hpk
  refine ⟨Nat.le_of_ble_eq_true rfl, ?_⟩
  simp (config := { maxSteps := 1000000 }) only [go_sem, ↓ifP_true, ↓ifP_false, ↓ifP_not, Nat.reduceLT, Nat.reduceAdd, Nat.reduceBEq, Nat.reduceSub, Nat.reduceLeDiff, Nat.reduceEqDiff, Nat.reduceMul, Int.reduceToNat, Int.reduceEq, Int.reduceLT, Int.reduceLE, Int.reduceAdd, Int.reduceSub, Int.reduceMul, reduceCtorEq, cond_true, cond_false, forall_eq', forall_eq, forall_const, implies_true, if_true, if_false, exists_eq_left', exists_eq', exists_eq, ne_eq, Tryz.f3, tb3_8, tb3_9, tb3_10, tb3_11, tb3_12, tb3_13, spLaw_q, spLaw_A, spLaw_pre, spLaw_post, spDPP_q, spDPP_A, spDPP_pre, spDPP_post, spPP_q, spPP_A, spPP_pre, spPP_post, spEqV_q, spEqV_A, spEqV_pre, spEqV_post, spFmt_q, spFmt_A, spFmt_pre, spFmt_post, spVPath_q, spVPath_A, spVPath_pre, spVPath_post]
  repeat' (first | apply And.intro | (intro _) | omega | assumption | with_reducible rfl)
  all_goals (first | (omega; done) | ((have h9 := pp_few (tx ‹ByteArray›); omega); done) | ((rw [(pp_canon ‹_›).1]; simp); done) | ((simp_all [pp_canon]; done); done) | (skip; done))
theorem sat_laws_FnPathCanonical : Sat Tryz.prog rt0 3 (wkIn spLaw) := sat_in sat_laws_FnPathCanonical_0
end Go.Proofs.YthphndhiacikaaaGreatDoor
