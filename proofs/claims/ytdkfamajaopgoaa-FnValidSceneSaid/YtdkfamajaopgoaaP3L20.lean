/- Contracts of functions of the program vectorraster, each proved for all states that fit its description. No conditions. -/
import Derived.Test.YtdkfamajaopgoaaPR
import Derived.Test.YtdkfamajaopgoaaPQ
import Derived.Test.YtdkfamajaopgoaaPH
set_option maxRecDepth 100000
set_option linter.unusedSimpArgs false
set_option linter.unusedVariables false
namespace Go.Proofs.Ytdkfamajaopgoaa
open Go Go.VE
theorem all_take2 {fs : List Fil} (h : fs.all vFil = true) (n : Nat) : (fs.take n).all vFil = true := by
  rw [List.all_eq_true] at *
  exact fun f hf => h f (List.mem_of_mem_take hf)
theorem okFs_take {l : List Fil} (h : okFs l) (n : Nat) : okFs (l.take n) := ⟨by have := h.len; rw [List.length_take]; omega, fun f hf => h.all f (List.mem_of_mem_take hf)⟩
theorem vScn_take {c : Scn} (h : vScn c = true) (n : Nat) : vScn ⟨c.w, c.h, c.fs.take n⟩ = true := by
  simp only [vScn, Bool.and_eq_true, decide_eq_true_eq] at *
  exact ⟨⟨h.1.1, by rw [List.length_take]; omega⟩, all_take2 h.2 n⟩
def tb8 : Nat → Option VE.Spec := tabOf [(28, wkIn spDScn), (29, wkIn spVScn), (30, wkIn spVScn)]
theorem tb8_28 : tb8 28 = some (wkIn spDScn) := rfl
theorem tb8_29 : tb8 29 = some (wkIn spVScn) := rfl
theorem tb8_30 : tb8 30 = some (wkIn spVScn) := rfl
theorem tb8_ok : TabOK Try.prog rt0 tb8 := (tabOf_cons (by kernel_rfl) sat_spec_DrawValidScene (tabOf_cons (by kernel_rfl) sat_impl_ValidScene (tabOf_cons (by kernel_rfl) sat_spec_ValidScene tabOf_nil)))
set_option maxHeartbeats 4000000 in
theorem sat_laws_FnValidScene_0 : Sat Try.prog rt0 8 spLaw := by
  refine fn_sat hm ttok (tab := tb8) tb8_ok Try.func8 (c := Try.f8.body.getD .skip) (by kernel_rfl) (ts := [.tmp 2]) (by kernel_rfl) Try.ntmps8 (sq := fun _ => true) (by kernel_rfl) ?_
  intro args ins pk hpre0 hpk
  obtain ⟨rfl, hpre0⟩ := hpre0
  obtain ⟨code, rfl, hpre, hdec⟩ := famPre_ex hpre0
  clear hpre0 hdec
  try simp only [spLaw_pre] at hpre
  replace hpk : pk + 100000 ≤ pickLimit := hpk
  refine ⟨Nat.le_of_ble_eq_true rfl, ?_⟩
  simp (config := { maxSteps := 1000000 }) only [go_sem, ↓ifP_true, ↓ifP_false, ↓ifP_not, Nat.reduceLT, Nat.reduceAdd, Nat.reduceBEq, Nat.reduceSub, Nat.reduceLeDiff, Nat.reduceEqDiff, Nat.reduceMul, Int.reduceToNat, Int.reduceEq, Int.reduceLT, Int.reduceLE, Int.reduceAdd, Int.reduceSub, Int.reduceMul, reduceCtorEq, cond_true, cond_false, forall_eq', forall_eq, forall_const, implies_true, if_true, if_false, exists_eq_left', exists_eq', exists_eq, ne_eq, Try.f8, tb8_28, tb8_29, tb8_30, spLaw_q, spLaw_A, spLaw_pre, spLaw_post, spDScn_q, spDScn_A, spDScn_pre, spDScn_post, spVScn_q, spVScn_A, spVScn_pre, spVScn_post]
  repeat' (first | apply And.intro | (intro _) | omega | assumption | with_reducible rfl)
  all_goals (first | (exact (‹okScn _›).fs; done) | (exact okFs_take (‹okScn _›).fs _; done) | (exact vScn_take ‹_› _; done) | ((have := (‹okScn _›).len; omega); done))
theorem sat_laws_FnValidScene : Sat Try.prog rt0 8 (wkIn spLaw) := sat_in sat_laws_FnValidScene_0
end Go.Proofs.Ytdkfamajaopgoaa
