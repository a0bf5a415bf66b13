/- Contracts of functions of the program vectorraster, each proved for all states that fit its description. No conditions. -/
import Derived.Test.YtofelomoieamoaaP1AC
import Derived.Test.YtofelomoieamoaaP1A6
import Derived.Test.YtofelomoieamoaaPP
set_option maxRecDepth 100000
set_option linter.unusedSimpArgs false
set_option linter.unusedVariables false
namespace Go.Proofs.Ytofelomoieamoaa
open Go Go.VE
theorem rnF_len2 {f : Frm} (h : f.px.length ≤ 200) : (rnF f).length ≤ 200 := by
  have : (rnF f).length ≤ f.px.length := by
    unfold rnF
    split
    · exact rF_len _
    · simp
  omega
theorem rnF_mb {f : Frm} {k : Nat} {r : Rn} (h : f.px.length ≤ 200) (hr : (rnF f)[k]? = some r) : 1 ≤ r.m ∧ r.m ≤ 200 := by
  cases hv : vFrm f with
  | false => rw [rn_no hv] at hr; simp at hr
  | true => rw [rn_yes hv] at hr; have := rF_mb hr; omega
def spDFF_A : (List UInt8) → List AV
  | code => [.c (.sl false (byC code))]
def spDFF_pre : (List UInt8) → Prop
  | code => code.length ≤ 1048576
def spDFF_post : (List UInt8) → AV → List Box → Prop
  | code, r, bs => ∃ w h, ∃ R : List Rn, r = .tup [I w, I h, .c (.sl false (R.map rnC))] ∧ bs = [] ∧ R.length ≤ 200
def spDFF : VE.Spec := famSpecS spDFF_A d_ly spDFF_pre spDFF_post 1340 false
theorem spDFF_q : spDFF.flat = false ∧ spDFF.mt = [] ∧ spDFF.shut = true ∧ spDFF.cost = 1340 ∧ (∀ a i, spDFF.pre a i = (i = [] ∧ famPre d_ly spDFF_A spDFF_pre a)) ∧ ∀ a i r b, spDFF.post a i r b = (famPost d_ly spDFF_post a r b) := ⟨rfl, rfl, rfl, rfl, fun _ _ => rfl, fun _ _ _ _ => rfl⟩
def tb32 : Nat → Option VE.Spec := tabOf [(37, wkIn spNew), (49, wkIn spAFrm), (25, wkIn spRuns), (57, wkIn spPick), (58, wkIn spOne), (59, wkIn spACol)]
theorem tb32_37 : tb32 37 = some (wkIn spNew) := rfl
theorem tb32_49 : tb32 49 = some (wkIn spAFrm) := rfl
theorem tb32_25 : tb32 25 = some (wkIn spRuns) := rfl
theorem tb32_57 : tb32 57 = some (wkIn spPick) := rfl
theorem tb32_58 : tb32 58 = some (wkIn spOne) := rfl
theorem tb32_59 : tb32 59 = some (wkIn spACol) := rfl
theorem tb32_ok : TabOK Try.prog rt0 tb32 := (tabOf_cons (by kernel_rfl) sat_spec_newReader (tabOf_cons (by kernel_rfl) sat_spec_anyFrame (tabOf_cons (by kernel_rfl) sat_spec_RunsOf (tabOf_cons (by kernel_rfl) sat_spec_reader_pick (tabOf_cons (by kernel_rfl) sat_spec_reader_one (tabOf_cons (by kernel_rfl) sat_spec_anyColor tabOf_nil))))))
set_option maxHeartbeats 4000000 in
theorem sat_spec_DrawFrameFrom_0 : Sat Try.prog rt0 32 (wkOut spDFF) := by
  refine fn_sat hm ttok (tab := tb32) tb32_ok Try.func32 (c := Try.f32.body.getD .skip) (by kernel_rfl) (ts := [.tmp 2, .tmp 3, .tmp 4]) (by kernel_rfl) Try.ntmps32 (sq := fun _ => true) (by kernel_rfl) ?_
  intro args ins pk hpre0 hpk
  obtain ⟨rfl, hpre0⟩ := hpre0
  obtain ⟨code, rfl, hpre, hdec⟩ := famPre_ex hpre0
  clear hpre0 hdec
  try simp only [spDFF_pre] at hpre
  replace hpk : pk + 1340 ≤ pickLimit := hpk
  refine ⟨Nat.le_of_ble_eq_true rfl, ?_⟩
  simp (config := { maxSteps := 1000000 }) only [go_sem, ↓ifP_true, ↓ifP_false, ↓ifP_not, Nat.reduceLT, Nat.reduceAdd, Nat.reduceBEq, Nat.reduceSub, Nat.reduceLeDiff, Nat.reduceEqDiff, Nat.reduceMul, Int.reduceToNat, Int.reduceEq, Int.reduceLT, Int.reduceLE, Int.reduceAdd, Int.reduceSub, Int.reduceMul, reduceCtorEq, cond_true, cond_false, forall_eq', forall_eq, forall_const, implies_true, if_true, if_false, exists_eq_left', exists_eq', exists_eq, ne_eq, Try.f32, tb32_37, tb32_49, tb32_25, tb32_57, tb32_58, tb32_59, spDFF_q, spDFF_A, spDFF_pre, spDFF_post, spNew_q, spAFrm_q, spAFrm_A, spAFrm_pre, spAFrm_post, spRuns_q, spRuns_A, spRuns_pre, spRuns_post, spPick_q, spPick_A, spPick_pre, spPick_post, spOne_q, spOne_A, spOne_pre, spOne_post, spACol_q, spACol_A, spACol_pre, spACol_post, Picks, rn_set]
  repeat' (first | apply And.intro | (intro _) | omega | assumption | with_reducible rfl)
  all_goals (first | (exact ⟨_, _, rfl, rfl, hpre⟩; done) | (assumption; done) | (trivial; done) | (exact Nat.le_trans (rnF_len2 ‹_›) (by decide); done) | ((have h9 := rnF_mb ‹_› ‹_›; simp only [List.mem_cons, List.not_mem_nil, or_false] at *; omega); done) | (exact ⟨_, _, _, rfl, rfl, rfl, rnF_len2 ‹_›⟩; done) | (exact ⟨_, _, _, rfl, rfl, rfl, by rw [List.length_set, List.length_set]; exact rnF_len2 ‹_›⟩; done) | (skip; done))
theorem sat_spec_DrawFrameFrom : Sat Try.prog rt0 32 (wkIn spDFF) := sat_in (sat_out sat_spec_DrawFrameFrom_0)
end Go.Proofs.Ytofelomoieamoaa
