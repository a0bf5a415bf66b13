/- Contracts of functions of the program vectorraster, each proved for all states that fit its description. No conditions. -/
import Derived.Test.YtkhplopcjkkejaaGreatPJ
import Derived.Test.YtkhplopcjkkejaaGreatPA
import Derived.Test.YtkhplopcjkkejaaGreatKK
import Derived.Test.YtkhplopcjkkejaaGreatPO
import Derived.Test.YtkhplopcjkkejaaGreatPC
import Derived.Test.YtkhplopcjkkejaaGreatPH
set_option linter.unusedSimpArgs false
set_option linter.unusedVariables false
section
set_option maxRecDepth 100000
set_option linter.unusedSimpArgs false
set_option linter.unusedVariables false
namespace Go.Proofs.YtkhplopcjkkejaaGreat
open Go Go.VE
def spEqP_A : (List Pt) × (List Pt) → List AV
  | (a, b) => [.c (.sl false (a.map ptC)), .c (.sl false (b.map ptC))]
def spEqP_pre : (List Pt) × (List Pt) → Prop
  | (a, b) => a.length ≤ 1000000000 ∧ b.length ≤ 1000000000
def spEqP_post : (List Pt) × (List Pt) → AV → List Box → Prop
  | (a, b), r, bs => r = B (decide (a = b)) ∧ bs = []
def spEqP : VE.Spec := famSpec spEqP_A d_lpt_lpt spEqP_pre spEqP_post 0 true
theorem spEqP_q : spEqP.flat = true ∧ spEqP.mt = [] ∧ spEqP.shut = false ∧ spEqP.cost = 0 ∧ (∀ a i, spEqP.pre a i = (i = [] ∧ famPre d_lpt_lpt spEqP_A spEqP_pre a)) ∧ ∀ a i r b, spEqP.post a i r b = (famPost d_lpt_lpt spEqP_post a r b) := ⟨rfl, rfl, rfl, rfl, fun _ _ => rfl, fun _ _ _ _ => rfl⟩
def spEqR_A : (List (List Pt)) × (List (List Pt)) → List AV
  | (a, b) => [.c (.sl false (a.map lptC)), .c (.sl false (b.map lptC))]
def spEqR_pre : (List (List Pt)) × (List (List Pt)) → Prop
  | (a, b) => a.length ≤ 1000000000 ∧ b.length ≤ 1000000000 ∧ total a ≤ 1000000000 ∧ total b ≤ 1000000000
def spEqR_post : (List (List Pt)) × (List (List Pt)) → AV → List Box → Prop
  | (a, b), r, bs => r = B (decide (a = b)) ∧ bs = []
def spEqR : VE.Spec := famSpec spEqR_A d_llpt_llpt spEqR_pre spEqR_post 0 true
theorem spEqR_q : spEqR.flat = true ∧ spEqR.mt = [] ∧ spEqR.shut = false ∧ spEqR.cost = 0 ∧ (∀ a i, spEqR.pre a i = (i = [] ∧ famPre d_llpt_llpt spEqR_A spEqR_pre a)) ∧ ∀ a i r b, spEqR.post a i r b = (famPost d_llpt_llpt spEqR_post a r b) := ⟨rfl, rfl, rfl, rfl, fun _ _ => rfl, fun _ _ _ _ => rfl⟩
end Go.Proofs.YtkhplopcjkkejaaGreat
end
section
set_option maxRecDepth 100000
set_option linter.unusedSimpArgs false
set_option linter.unusedVariables false
namespace Go.Proofs.YtkhplopcjkkejaaGreat
open Go Go.VE
end Go.Proofs.YtkhplopcjkkejaaGreat
end
section
set_option maxRecDepth 100000
set_option linter.unusedSimpArgs false
set_option linter.unusedVariables false
namespace Go.Proofs.YtkhplopcjkkejaaGreat
open Go Go.VE
theorem area_part2 {L : List (List Pt)} {i k : Int} {r : List Pt} (h : vRings L = true) (hr : L[i.toNat]? = some r) : -3600000000 ≤ areaE (edgesOf (L.take i.toNat) ++ (ringE r).take k.toNat) ∧ areaE (edgesOf (L.take i.toNat) ++ (ringE r).take k.toNat) ≤ 3600000000 := by
  have h0 := vRings_ok h
  have h1 := areaE_bd (es := edgesOf (L.take i.toNat) ++ (ringE r).take k.toNat) fun e he => by
    rcases List.mem_append.1 he with he | he
    · exact edges_ok ⟨fun q hq => h0.all q (List.mem_of_mem_take hq)⟩ e he
    · exact ringE_ok (h0.all r (List.mem_of_getElem? hr)) e (List.mem_of_mem_take he)
  have h2 := total_mem hr
  have h3 := (vRings_len h).2
  have h4 : (edgesOf (L.take i.toNat) ++ (ringE r).take k.toNat).length ≤ 200 := by
    rw [List.length_append, edgesOf_len, List.length_take, ringE_len]; omega
  omega
end Go.Proofs.YtkhplopcjkkejaaGreat
end
section
set_option maxRecDepth 100000
set_option linter.unusedSimpArgs false
set_option linter.unusedVariables false
namespace Go.Proofs.YtkhplopcjkkejaaGreat
open Go Go.VE
def tb19 : Nat → Option VE.Spec := tabOf [(60, wkIn spVPath), (61, wkIn spRings)]
theorem tb19_60 : tb19 60 = some (wkIn spVPath) := rfl
theorem tb19_61 : tb19 61 = some (wkIn spRings) := rfl
theorem tb19_ok : TabOK Tryz.prog rt0 tb19 := (tabOf_cons (by kernel_rfl) sat_impl_ValidPath (tabOf_cons (by kernel_rfl) sat_impl_rings tabOf_nil))
set_option maxHeartbeats 4000000 in
theorem sat_impl_RingsOf_0 : Sat Tryz.prog rt0 19 (wkOut spRO) := by
  refine fn_sat hm ttok (tab := tb19) tb19_ok Tryz.func19 (c := Tryz.f19.body.getD .skip) (by kernel_rfl) (ts := [.tmp 2]) (by kernel_rfl) Tryz.ntmps19 (sq := fun _ => true) (by kernel_rfl) ?_
  intro args ins pk hpre0 hpk
  obtain ⟨rfl, hpre0⟩ := hpre0
  obtain ⟨p, rfl, hpre, hdec⟩ := famPre_ex hpre0
  clear hpre0 hdec
  try simp only [spRO_pre] at hpre
  replace hpk : pk + 0 ≤ pickLimit := hpk
  refine ⟨Nat.le_of_ble_eq_true rfl, ?_⟩
  simp (config := { maxSteps := 1000000 }) only [go_sem, ↓ifP_true, ↓ifP_false, ↓ifP_not, Nat.reduceLT, Nat.reduceAdd, Nat.reduceBEq, Nat.reduceSub, Nat.reduceLeDiff, Nat.reduceEqDiff, Nat.reduceMul, Int.reduceToNat, Int.reduceEq, Int.reduceLT, Int.reduceLE, Int.reduceAdd, Int.reduceSub, Int.reduceMul, reduceCtorEq, cond_true, cond_false, forall_eq', forall_eq, forall_const, implies_true, if_true, if_false, exists_eq_left', exists_eq', exists_eq, ne_eq, Tryz.f19, tb19_60, tb19_61, spRO_q, spRO_A, spRO_pre, spRO_post, spVPath_q, spVPath_A, spVPath_pre, spVPath_post, spRings_q, spRings_A, spRings_pre, spRings_post]
  repeat' (first | apply And.intro | (intro _) | omega | assumption | with_reducible rfl)
  all_goals (first | ((rw [ringsV_yes ‹_›]); done) | ((rw [ringsV_yes ‹_›]; rfl); done) | ((rw [ringsV_no ‹_›]; rfl); done) | ((rw [ringsV_no ‹_›]); done) | ((have h9 := ringsV_len p; omega); done) | ((have h9 := rings_tot2 ‹vPath p = true›; omega); done) | (rfl; done))
theorem sat_impl_RingsOf : Sat Tryz.prog rt0 19 (wkIn spRO) := sat_in (sat_out sat_impl_RingsOf_0)
end Go.Proofs.YtkhplopcjkkejaaGreat
end
section
set_option maxRecDepth 100000
set_option linter.unusedSimpArgs false
set_option linter.unusedVariables false
namespace Go.Proofs.YtkhplopcjkkejaaGreat
open Go Go.VE
end Go.Proofs.YtkhplopcjkkejaaGreat
end
section
set_option maxRecDepth 100000
set_option linter.unusedSimpArgs false
set_option linter.unusedVariables false
namespace Go.Proofs.YtkhplopcjkkejaaGreat
open Go Go.VE
def spDRO_A : (List UInt8) → List AV
  | code => [.c (.sl false (byC code))]
def spDRO_pre : (List UInt8) → Prop
  | code => code.length ≤ 1048576
def spDRO_post : (List UInt8) → AV → List Box → Prop
  | code, r, bs => ∃ p : List Verb, r = .c (.sl false (p.map vbC)) ∧ bs = [] ∧ p.length ≤ 31 ∧ nPts p ≤ 100
def spDRO : VE.Spec := famSpecS spDRO_A d_ly spDRO_pre spDRO_post 230 false
theorem spDRO_q : spDRO.flat = false ∧ spDRO.mt = [] ∧ spDRO.shut = true ∧ spDRO.cost = 230 ∧ (∀ a i, spDRO.pre a i = (i = [] ∧ famPre d_ly spDRO_A spDRO_pre a)) ∧ ∀ a i r b, spDRO.post a i r b = (famPost d_ly spDRO_post a r b) := ⟨rfl, rfl, rfl, rfl, fun _ _ => rfl, fun _ _ _ _ => rfl⟩
end Go.Proofs.YtkhplopcjkkejaaGreat
end
