/- Contracts of functions of the program vectorraster, each proved for all states that fit its description. No conditions. -/
import Derived.Test.YthphndhiacikaaaDoorT2Z6
import Derived.Test.YthphndhiacikaaaDoorPL
set_option maxRecDepth 100000
set_option linter.unusedSimpArgs false
set_option linter.unusedVariables false
namespace Go.Proofs.YthphndhiacikaaaDoor
open Go Go.VE
def spPP_A : ByteArray → List AV
  | x => [.c (.v (.string x))]
def spPP_pre : ByteArray → Prop
  | x => x.size ≤ 1000000000
def spPP_post : ByteArray → AV → List Box → Prop
  | x, r, bs => r = .tup [.c (.sl false ((((pp (tx x)).getD [])).map vbC)), B ((pp (tx x)).isSome)] ∧ bs = []
def spPP : VE.Spec := famSpecS spPP_A d_s spPP_pre spPP_post 0 false
theorem spPP_q : spPP.flat = false ∧ spPP.mt = [] ∧ spPP.shut = true ∧ spPP.cost = 0 ∧ (∀ a i, spPP.pre a i = (i = [] ∧ famPre d_s spPP_A spPP_pre a)) ∧ ∀ a i r b, spPP.post a i r b = (famPost d_s spPP_post a r b) := ⟨rfl, rfl, rfl, rfl, fun _ _ => rfl, fun _ _ _ _ => rfl⟩
def tb15 : Nat → Option VE.Spec := tabOf [(37, wkIn spSplA), (36, wkIn spParse), (19, wkIn spVPath), (20, wkIn spFmtV)]
theorem tb15_37 : tb15 37 = some (wkIn spSplA) := rfl
theorem tb15_36 : tb15 36 = some (wkIn spParse) := rfl
theorem tb15_19 : tb15 19 = some (wkIn spVPath) := rfl
theorem tb15_20 : tb15 20 = some (wkIn spFmtV) := rfl
theorem tb15_ok : TabOK Tryd.prog rt0 tb15 := (tabOf_cons (by kernel_rfl) sat_spec_splitAt (tabOf_cons (by kernel_rfl) sat_spec_parsePath (tabOf_cons (by kernel_rfl) sat_spec_validPath (tabOf_cons (by kernel_rfl) sat_spec_formatPath tabOf_nil))))
set_option maxHeartbeats 4000000 in
theorem sat_spec_ParsePath_0 : Sat Tryd.prog rt0 15 (wkOut spPP) := by
  refine fn_sat hm ttok (tab := tb15) tb15_ok Tryd.func15 (c := Tryd.f15.body.getD .skip) (by kernel_rfl) (ts := [.tmp 2, .tmp 3]) (by kernel_rfl) Tryd.ntmps15 (sq := fun _ => true) (by kernel_rfl) ?_
  intro args ins pk hpre0 hpk
  obtain ⟨rfl, hpre0⟩ := hpre0
  obtain ⟨x, rfl, hpre, hdec⟩ := famPre_ex hpre0
  clear hpre0 hdec
  try simp only [spPP_pre] at hpre
  replace hpk : pk + 0 ≤ pickLimit := hpk
  refine ⟨Nat.le_of_ble_eq_true rfl, ?_⟩
  simp (config := { maxSteps := 1000000 }) only [go_sem, ↓ifP_true, ↓ifP_false, ↓ifP_not, Nat.reduceLT, Nat.reduceAdd, Nat.reduceBEq, Nat.reduceSub, Nat.reduceLeDiff, Nat.reduceEqDiff, Nat.reduceMul, Int.reduceToNat, Int.reduceEq, Int.reduceLT, Int.reduceLE, Int.reduceAdd, Int.reduceSub, Int.reduceMul, reduceCtorEq, cond_true, cond_false, forall_eq', forall_eq, forall_const, implies_true, if_true, if_false, exists_eq_left', exists_eq', exists_eq, ne_eq, Tryd.f15, tb15_37, tb15_36, tb15_19, tb15_20, spPP_q, spPP_A, spPP_pre, spPP_post, spSplA_q, spSplA_A, spSplA_pre, spSplA_post, spParse_q, spParse_A, spParse_pre, spParse_post, spVPath_q, spVPath_A, spVPath_pre, spVPath_post, spFmtV_q, spFmtV_A, spFmtV_pre, spFmtV_post, spl_words, u8_32]
  repeat' (first | apply And.intro | (intro _) | omega | assumption | with_reducible rfl)
  all_goals (first | ((have h9 := spl_ok 32 (x := x) (by omega); omega); done) | ((exact (spl_ok 32 (x := x) (by omega)).2 _ ‹_›); done) | ((have h9 := spl_ok 32 (x := x) (by omega); have h8 := parseS_num (spl 32 (tx x)); rw [spl_words]; omega); done) | ((simp only [pp_long ‹_›]; rfl); done) | ((simp only [pp_mt ‹_›]; rfl); done) | ((rw [pp_good ‹_› ‹_› ‹_› ‹_›]; rfl); done) | ((rw [pp_diff ‹_› ‹_› ‹_›]; rfl); done) | ((rw [pp_bad ‹_› ‹_› ‹_›]; rfl); done) | ((have h9 := spl_ok 32 (x := x) (by omega); have h8 := parseS_num (spl 32 (tx x)); omega); done) | (skip; done))
theorem sat_spec_ParsePath : Sat Tryd.prog rt0 15 (wkIn spPP) := sat_in (sat_out sat_spec_ParsePath_0)
end Go.Proofs.YthphndhiacikaaaDoor
