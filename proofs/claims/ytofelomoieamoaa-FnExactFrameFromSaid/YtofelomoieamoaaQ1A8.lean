/- Contracts of functions of the program vectorraster, each proved for all states that fit its description. No conditions. -/
import Derived.Test.YtofelomoieamoaaQ1A7
set_option maxRecDepth 100000
set_option linter.unusedSimpArgs false
set_option linter.unusedVariables false
namespace Go.Proofs.Ytofelomoieamoaa
open Go Go.VE
theorem rep_copy0 (N : Nat) (c z : Colr) : copyE (List.map coC (List.replicate N z)) 0 (min N 1) [coC c] = (List.replicate (min N 1) c ++ List.replicate (N - min N 1) z).map coC := by
  cases N with
  | zero => rfl
  | succ N =>
    have h : min (N + 1) 1 = 1 := by omega
    rw [h]
    simp [copyE]
theorem rep_copy (N m : Nat) (c z : Colr) (hm : m ≤ N) : copyE (List.map coC (List.replicate m c ++ List.replicate (N - m) z)) m (min (N - m) m) (List.map coC (List.replicate m c)) = List.map coC (List.replicate (m + min (N - m) m) c ++ List.replicate (N - (m + min (N - m) m)) z) := by
  unfold copyE
  simp only [← List.map_take, ← List.map_drop, ← List.map_append]
  rw [List.take_left' (by simp), List.take_replicate, List.drop_append, List.drop_of_length_le (by simp), List.drop_replicate, ← List.append_assoc, List.nil_append, List.replicate_append_replicate]
  congr 3
  · omega
  · simp; omega
theorem rep_0 (n : Int) (c : Colr) : copyE (List.replicate n.toNat [C.v (.int .i64 0), C.v (.int .i64 0), C.v (.int .i64 0), C.v (.int .i64 0)]) 0 (min n.toNat 1) [coC c] = (List.replicate (min n.toNat 1) c ++ List.replicate (n.toNat - min n.toNat 1) default).map coC := by
  have e : List.replicate n.toNat [C.v (.int .i64 0), C.v (.int .i64 0), C.v (.int .i64 0), C.v (.int .i64 0)] = List.map coC (List.replicate n.toNat default) := by rw [List.map_replicate]; rfl
  rw [e]; exact rep_copy0 _ _ _
def spRep_A : (List Colr) × Int → List AV
  | (l, n) => [.c (.sl false (l.map coC)), I n]
def spRep_pre : (List Colr) × Int → Prop
  | (l, n) => l.length = 1 ∧ 0 ≤ n ∧ n ≤ 1000
def spRep_post : (List Colr) × Int → AV → List Box → Prop
  | (l, n), r, bs => r = .c (.sl false (((List.replicate n.toNat (l.headD default))).map coC)) ∧ bs = []
def spRep : VE.Spec := famSpecS spRep_A d_lco_i spRep_pre spRep_post 0 false
theorem spRep_q : spRep.flat = false ∧ spRep.mt = [] ∧ spRep.shut = true ∧ spRep.cost = 0 ∧ (∀ a i, spRep.pre a i = (i = [] ∧ famPre d_lco_i spRep_A spRep_pre a)) ∧ ∀ a i r b, spRep.post a i r b = (famPost d_lco_i spRep_post a r b) := ⟨rfl, rfl, rfl, rfl, fun _ _ => rfl, fun _ _ _ _ => rfl⟩
def tb54 : Nat → Option VE.Spec := tabOf [(70, wkIn spMul)]
theorem tb54_70 : tb54 70 = some (wkIn spMul) := rfl
theorem tb54_ok : TabOK Try.prog rt0 tb54 := (tabOf_cons (by kernel_rfl) sat_math_bits_Mul tabOf_nil)
set_option maxHeartbeats 4000000 in
theorem sat_slices_Repeat_impl_Color_impl_Color_0 : Sat Try.prog rt0 54 (wkOut spRep) := by
  refine fn_sat hm ttok (tab := tb54) tb54_ok Try.func54 (c := Try.f54.body.getD .skip) (by kernel_rfl) (ts := [.tmp 4]) (by kernel_rfl) Try.ntmps54 (sq := fun _ => true) (by kernel_rfl) ?_
  intro args ins pk hpre0 hpk
  obtain ⟨rfl, hpre0⟩ := hpre0
  obtain ⟨⟨l, n⟩, rfl, hpre, hdec⟩ := famPre_ex hpre0
  clear hpre0 hdec
  try simp only [spRep_pre] at hpre
  replace hpk : pk + 0 ≤ pickLimit := hpk
  refine ⟨Nat.le_of_ble_eq_true rfl, ?_⟩
  obtain ⟨c, rfl⟩ := List.length_eq_one_iff.1 hpre.1
  have h1n : ((1 : Nat) : Int) * n = n := by omega
  simp (config := { maxSteps := 1000000 }) only [go_sem, ↓ifP_true, ↓ifP_false, ↓ifP_not, Nat.reduceLT, Nat.reduceAdd, Nat.reduceBEq, Nat.reduceSub, Nat.reduceLeDiff, Nat.reduceEqDiff, Nat.reduceMul, Int.reduceToNat, Int.reduceEq, Int.reduceLT, Int.reduceLE, Int.reduceAdd, Int.reduceSub, Int.reduceMul, reduceCtorEq, cond_true, cond_false, forall_eq', forall_eq, forall_const, implies_true, if_true, if_false, exists_eq_left', exists_eq', exists_eq, ne_eq, Try.f54, tb54_70, spRep_q, spRep_A, spRep_pre, spRep_post, spMul_q, spMul_A, spMul_pre, spMul_post, h1n, rep_0]
  repeat' (first | apply And.intro | (intro _) | omega | assumption | with_reducible rfl)
  any_goals
    refine loopS (α := (List Colr) × Int) false [0, 1, 2, 3, 5, 6, 8, 9, 10, 11, 12, 13, 14, 15, 16, 17, 18, 19, 20, 21, 22, 23, 24, 25, 26, 27, 28, 29, 30, 31, 32, 33, 34, 35, 36, 37, 38, 39, 40, 41, 42, 43, 44, 45, 46] (fun σ => [176]) (fun σ x => [(8, I x.2)]) (fun σ x => [(176, some ⟨(x.1).map coC, 4, 44, true, false⟩)]) (fun (o, m) => 0) (fun σ => (gL coCd σ (.c (.own 176 (boxN σ 176).es.length false)), gI (σ.get 8))) (fun σ τ => []) (fun (o, m) => (0 ≤ m ∧ m ≤ n) ∧ (1 ≤ m ∨ n = 0) ∧ o = List.replicate m.toNat c ++ List.replicate (n.toNat - m.toNat) (default : Colr)) (fun (o, m) => (n - m).toNat) ⟨by (simp (config := { maxSteps := 1000000 }) only [go_sem, ↓ifP_true, ↓ifP_false, ↓ifP_not, Nat.reduceLT, Nat.reduceAdd, Nat.reduceBEq, Nat.reduceSub, Nat.reduceLeDiff, Nat.reduceEqDiff, Nat.reduceMul, Int.reduceToNat, Int.reduceEq, Int.reduceLT, Int.reduceLE, Int.reduceAdd, Int.reduceSub, Int.reduceMul, reduceCtorEq, cond_true, cond_false, forall_eq', forall_eq, forall_const, implies_true, if_true, if_false, exists_eq_left', exists_eq', exists_eq, ne_eq, Try.f54, tb54_70, spRep_q, spRep_A, spRep_pre, spRep_post, spMul_q, spMul_A, spMul_pre, spMul_post, h1n, rep_0]; (repeat' (first | apply And.intro | (intro _) | omega | assumption | with_reducible rfl)); all_goals (first | rfl | omega | skip)), ?_⟩
    rintro ⟨o, m⟩ hinv
    obtain ⟨h1, h2, rfl⟩ := hinv
    have eT : List.take m.toNat (List.replicate m.toNat c ++ List.replicate (n.toNat - m.toNat) (default : Colr)) = List.replicate m.toNat c := List.take_left' (by simp)
    have eC := rep_copy n.toNat m.toNat c default (by omega)
    have eT2 := congrArg (List.map coC) eT
    rw [List.map_take, List.map_append] at eT2
    simp only [List.map_append] at eC
    have eL : (List.replicate m.toNat c ++ List.replicate (n.toNat - m.toNat) (default : Colr)).length = n.toNat := by simp; omega
    simp (config := { maxSteps := 1000000 }) only [go_sem, eT2, eC, eL, List.length_replicate, List.length_map, ↓ifP_true, ↓ifP_false, ↓ifP_not, Nat.reduceLT, Nat.reduceAdd, Nat.reduceBEq, Nat.reduceSub, Nat.reduceLeDiff, Nat.reduceEqDiff, Nat.reduceMul, Int.reduceToNat, Int.reduceEq, Int.reduceLT, Int.reduceLE, Int.reduceAdd, Int.reduceSub, Int.reduceMul, reduceCtorEq, cond_true, cond_false, forall_eq', forall_eq, forall_const, implies_true, if_true, if_false, exists_eq_left', exists_eq', exists_eq, ne_eq, Try.f54, tb54_70, spRep_q, spRep_A, spRep_pre, spRep_post, spMul_q, spMul_A, spMul_pre, spMul_post, h1n, rep_0]
    repeat' (first | apply And.intro | (intro _) | omega | assumption | with_reducible rfl)
  
  all_goals (first | (omega; done) | ((rw [show n.toNat - m.toNat = 0 by omega, show n.toNat = m.toNat by omega, List.replicate_zero, List.map_nil, List.append_nil]); done) | ((rw [show (m + ((min (n.toNat - m.toNat) m.toNat : Nat) : Int)).toNat = m.toNat + min (n.toNat - m.toNat) m.toNat by omega]); done) | ((simp only [List.mem_map] at *; grind); done) | (skip; done))
theorem sat_slices_Repeat_impl_Color_impl_Color : Sat Try.prog rt0 54 (wkIn spRep) := sat_in (sat_out sat_slices_Repeat_impl_Color_impl_Color_0)
end Go.Proofs.Ytofelomoieamoaa
