/- Contracts of functions of the program vectorraster, each proved for all states that fit its description. No conditions. -/
import Derived.Test.YtofelomoieamoaaQ1A4
import Derived.Test.YtofelomoieamoaaKK
set_option maxRecDepth 100000
set_option linter.unusedSimpArgs false
set_option linter.unusedVariables false
namespace Go.Proofs.Ytofelomoieamoaa
open Go Go.VE
abbrev U (n : Int) : AV := .c (.v (.int .u64 n))
def spMul_A : Int × Int → List AV
  | (a, b) => [U a, U b]
def spMul_pre : Int × Int → Prop
  | (a, b) => (0 ≤ a ∧ a ≤ 2147483647) ∧ 0 ≤ b ∧ b ≤ 2147483647
def spMul_post : Int × Int → AV → List Box → Prop
  | (a, b), r, bs => r = .tup [U 0, U (a * b)] ∧ bs = []
def spMul : VE.Spec := famSpec spMul_A d_uu spMul_pre spMul_post 0 true
theorem spMul_q : spMul.flat = true ∧ spMul.mt = [] ∧ spMul.shut = false ∧ spMul.cost = 0 ∧ (∀ a i, spMul.pre a i = (i = [] ∧ famPre d_uu spMul_A spMul_pre a)) ∧ ∀ a i r b, spMul.post a i r b = (famPost d_uu spMul_post a r b) := ⟨rfl, rfl, rfl, rfl, fun _ _ => rfl, fun _ _ _ _ => rfl⟩
def tb77 : Nat → Option VE.Spec := tabOf []
theorem tb77_ok : TabOK Try.prog rt0 tb77 := tabOf_nil
set_option maxHeartbeats 4000000 in
theorem sat_math_bits_Mul64_0 : Sat Try.prog rt0 77 (wkOut spMul) := by
  refine fn_sat hm ttok (tab := tb77) tb77_ok Try.func77 (c := Try.f77.body.getD .skip) (by kernel_rfl) (ts := [.tmp 4, .tmp 5]) (by kernel_rfl) Try.ntmps77 (sq := fun _ => true) (by kernel_rfl) ?_
  intro args ins pk hpre0 hpk
  obtain ⟨rfl, hpre0⟩ := hpre0
  obtain ⟨⟨a, b⟩, rfl, hpre, hdec⟩ := famPre_ex hpre0
  clear hpre0 hdec
  try simp only [spMul_pre] at hpre
  replace hpk : pk + 0 ≤ pickLimit := hpk
  refine ⟨Nat.le_of_ble_eq_true rfl, ?_⟩
  simp (config := { maxSteps := 1000000 }) only [go_sem, ↓ifP_true, ↓ifP_false, ↓ifP_not, Nat.reduceLT, Nat.reduceAdd, Nat.reduceBEq, Nat.reduceSub, Nat.reduceLeDiff, Nat.reduceEqDiff, Nat.reduceMul, Int.reduceToNat, Int.reduceEq, Int.reduceLT, Int.reduceLE, Int.reduceAdd, Int.reduceSub, Int.reduceMul, reduceCtorEq, cond_true, cond_false, forall_eq', forall_eq, forall_const, implies_true, if_true, if_false, exists_eq_left', exists_eq', exists_eq, ne_eq, Try.f77, spMul_q, spMul_A, spMul_pre, spMul_post]
  have m : ∀ x : Int, 0 ≤ x → x ≤ 4294967295 → ((x.toNat &&& 4294967295 : Nat) : Int) = x := fun x h1 h2 => by
    have e : (4294967295 : Nat) = 2 ^ 32 - 1 := rfl
    rw [e, Nat.and_two_pow_sub_one_eq_mod, Nat.mod_eq_of_lt (by omega)]
    omega
  have e32 : ((2 ^ 32 : Nat) : Int) = 4294967296 := rfl
  have d : ∀ x : Int, 0 ≤ x → x ≤ 4294967295 → x / 4294967296 = 0 := fun x h1 h2 => Int.ediv_eq_zero_of_lt h1 (by omega)
  have hp0 : 0 ≤ a * b := Int.mul_nonneg (by omega) (by omega)
  have hp1 : a * b ≤ 4611686014132420609 := by
    have := Int.mul_le_mul hpre.1.2 hpre.2.2 (by omega) (by omega)
    omega
  have hq : 0 ≤ a * b / 4294967296 ∧ a * b / 4294967296 ≤ 4294967295 := by omega
  simp only [e32, m a (by omega) (by omega), m b (by omega) (by omega), d a (by omega) (by omega), d b (by omega) (by omega), Int.zero_mul, Int.zero_add, Int.mul_zero, Int.add_zero, m _ hq.1 hq.2, d _ hq.1 hq.2]
  and_intros <;> first | omega | trivial | rfl | skip
theorem sat_math_bits_Mul64 : Sat Try.prog rt0 77 (wkIn spMul) := sat_in (sat_out sat_math_bits_Mul64_0)
def tb70 : Nat → Option VE.Spec := tabOf [(77, wkIn spMul)]
theorem tb70_77 : tb70 77 = some (wkIn spMul) := rfl
theorem tb70_ok : TabOK Try.prog rt0 tb70 := (tabOf_cons (by kernel_rfl) sat_math_bits_Mul64 tabOf_nil)
set_option maxHeartbeats 4000000 in
theorem sat_math_bits_Mul_0 : Sat Try.prog rt0 70 (wkOut spMul) := by
  refine fn_sat hm ttok (tab := tb70) tb70_ok Try.func70 (c := Try.f70.body.getD .skip) (by kernel_rfl) (ts := [.tmp 4, .tmp 5]) (by kernel_rfl) Try.ntmps70 (sq := fun _ => true) (by kernel_rfl) ?_
  intro args ins pk hpre0 hpk
  obtain ⟨rfl, hpre0⟩ := hpre0
  obtain ⟨⟨a, b⟩, rfl, hpre, hdec⟩ := famPre_ex hpre0
  clear hpre0 hdec
  try simp only [spMul_pre] at hpre
  replace hpk : pk + 0 ≤ pickLimit := hpk
  refine ⟨Nat.le_of_ble_eq_true rfl, ?_⟩
  simp (config := { maxSteps := 1000000 }) only [go_sem, ↓ifP_true, ↓ifP_false, ↓ifP_not, Nat.reduceLT, Nat.reduceAdd, Nat.reduceBEq, Nat.reduceSub, Nat.reduceLeDiff, Nat.reduceEqDiff, Nat.reduceMul, Int.reduceToNat, Int.reduceEq, Int.reduceLT, Int.reduceLE, Int.reduceAdd, Int.reduceSub, Int.reduceMul, reduceCtorEq, cond_true, cond_false, forall_eq', forall_eq, forall_const, implies_true, if_true, if_false, exists_eq_left', exists_eq', exists_eq, ne_eq, Try.f70, tb70_77, spMul_q, spMul_A, spMul_pre, spMul_post]
  repeat' (first | apply And.intro | (intro _) | omega | assumption | with_reducible rfl)
  all_goals (first | (omega; done) | (rfl; done) | (skip; done))
theorem sat_math_bits_Mul : Sat Try.prog rt0 70 (wkIn spMul) := sat_in (sat_out sat_math_bits_Mul_0)
end Go.Proofs.Ytofelomoieamoaa
