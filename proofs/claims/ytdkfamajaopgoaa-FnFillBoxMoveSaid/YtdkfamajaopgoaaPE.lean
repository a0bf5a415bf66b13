/- Contracts of functions of the program vectorraster, each proved for all states that fit its description. No conditions. -/
import Derived.Test.YtdkfamajaopgoaaPD
import Derived.Test.YtdkfamajaopgoaaPC
import Derived.Test.YtdkfamajaopgoaaPA
set_option linter.unusedSimpArgs false
set_option linter.unusedVariables false
section
set_option maxRecDepth 100000
set_option linter.unusedSimpArgs false
set_option linter.unusedVariables false
namespace Go.Proofs.Ytdkfamajaopgoaa
open Go Go.VE
structure okLL (L : List (List Pt)) : Prop where
  all : ∀ r ∈ L, okL r
theorem okLL.nil : okLL [] := ⟨by intro r hr; cases hr⟩
theorem okLL.snoc {L : List (List Pt)} {r : List Pt} (h : okLL L) (hr : okL r) : okLL (L ++ [r]) := ⟨fun q hq => (List.mem_append.1 hq).elim (h.all q) (fun e => by rw [List.mem_singleton] at e; exact e ▸ hr)⟩
theorem rings_ok {p : List Verb} (h : vPath p = true) : okLL (ringsOf p) ∧ (ringsOf p).length ≤ 31 ∧ ∀ r ∈ ringsOf p, r.length ≤ 241 := by
  have h30 := vPath_len h
  have := ringInv_at h p.length (Nat.le_refl _)
  rw [List.take_length] at this
  obtain ⟨h1, h2, h3, h4, h5⟩ := this
  unfold ringsOf
  split
  · exact ⟨⟨fun r hr => (h5 r hr).1⟩, by omega, fun r hr => by have := (h5 r hr).2.2; omega⟩
  · refine ⟨okLL.snoc ⟨fun r hr => (h5 r hr).1⟩ h1, by rw [List.length_append, List.length_singleton]; omega, fun r hr => ?_⟩
    rcases List.mem_append.1 hr with hr | hr
    · have := (h5 r hr).2.2; omega
    · rw [List.mem_singleton] at hr; subst hr; omega
theorem total_le {L : List (List Pt)} {n : Nat} (h : ∀ r ∈ L, r.length ≤ n) : total L ≤ L.length * n := by
  induction L with
  | nil => simp [total]
  | cons r L ih =>
    have h1 := h r (by simp)
    have h2 := ih fun q hq => h q (by simp [hq])
    simp only [total, List.map_cons, List.sum_cons, List.length_cons, Nat.add_mul] at *
    omega
theorem rings_total {p : List Verb} (h : vPath p = true) : total (ringsOf p) ≤ 10000 := by
  obtain ⟨_, h1, h2⟩ := rings_ok h
  have := total_le h2
  have := Nat.mul_le_mul_right 241 h1
  omega
theorem vRings_len {L : List (List Pt)} (h : vRings L = true) : L.length ≤ 8 ∧ total L ≤ 200 := by
  simp only [vRings, Bool.and_eq_true, decide_eq_true_eq] at h
  exact ⟨h.1.2, h.2⟩
theorem okP_rng {p : Pt} (h1 : -16 ≤ p.x) (h2 : p.x ≤ 207) (h3 : -16 ≤ p.y) (h4 : p.y ≤ 207) : okP p := by constructor <;> omega
theorem okP_any {p : Pt} (h1 : -1001 ≤ p.x) (h2 : p.x ≤ 1001) (h3 : -1001 ≤ p.y) (h4 : p.y ≤ 1001) : okP p := by constructor <;> omega
theorem okL_snoc {l : List Pt} {p : Pt} (h : okL l) (hp : okP p) : okL (l ++ [p]) := okL_app h (okL_cons hp okL_nil)
def spRRings_A : Unit → List AV
  | () => [.c .rdr]
def spRRings_pre : Unit → Prop
  | () => True
def spRRings_post : Unit → AV → List Box → Prop
  | (), r, bs => ∃ L, r = .c (.own 0 L.length false) ∧ bs = [⟨L.map lptC, 1, 74, true, false⟩] ∧ L.length ≤ 8 ∧ total L ≤ 200 ∧ okLL L
def spRRings : VE.Spec := famSpec spRRings_A d_r spRRings_pre spRRings_post 160 false
theorem spRRings_q : spRRings.flat = false ∧ spRRings.mt = [] ∧ spRRings.shut = false ∧ spRRings.cost = 160 ∧ (∀ a i, spRRings.pre a i = (i = [] ∧ famPre d_r spRRings_A spRRings_pre a)) ∧ ∀ a i r b, spRRings.post a i r b = (famPost d_r spRRings_post a r b) := ⟨rfl, rfl, rfl, rfl, fun _ _ => rfl, fun _ _ _ _ => rfl⟩
def tb111 : Nat → Option VE.Spec := tabOf [(102, wkIn spOne), (101, wkIn spPick), (103, wkIn spSome), (52, wkIn spRings), (100, wkIn spRPath), (61, wkIn spVRings)]
theorem tb111_102 : tb111 102 = some (wkIn spOne) := rfl
theorem tb111_101 : tb111 101 = some (wkIn spPick) := rfl
theorem tb111_103 : tb111 103 = some (wkIn spSome) := rfl
theorem tb111_52 : tb111 52 = some (wkIn spRings) := rfl
theorem tb111_100 : tb111 100 = some (wkIn spRPath) := rfl
theorem tb111_61 : tb111 61 = some (wkIn spVRings) := rfl
theorem tb111_ok : TabOK Try.prog rt0 tb111 := (tabOf_cons (by kernel_rfl) sat_spec_reader_one (tabOf_cons (by kernel_rfl) sat_spec_reader_pick (tabOf_cons (by kernel_rfl) sat_spec_somePoint (tabOf_cons (by kernel_rfl) sat_spec_rings (tabOf_cons (by kernel_rfl) sat_spec_randomPath (tabOf_cons (by kernel_rfl) sat_spec_validRings tabOf_nil))))))
set_option maxHeartbeats 4000000 in
theorem sat_spec_randomRings_0 : Sat Try.prog rt0 111 (wkOut spRRings) := by
  refine fn_sat hm ttok (tab := tb111) tb111_ok Try.func111 (c := Try.f111.body.getD .skip) (by kernel_rfl) (ts := [.tmp 2]) (by kernel_rfl) Try.ntmps111 (sq := fun _ => true) (by kernel_rfl) ?_
  intro args ins pk hpre0 hpk
  obtain ⟨rfl, hpre0⟩ := hpre0
  obtain ⟨⟨⟩, rfl, hpre, hdec⟩ := famPre_ex hpre0
  clear hpre0 hdec
  try simp only [spRRings_pre] at hpre
  replace hpk : pk + 160 ≤ pickLimit := hpk
  refine ⟨Nat.le_of_ble_eq_true rfl, ?_⟩
  simp (config := { maxSteps := 1000000 }) only [go_sem, ↓ifP_true, ↓ifP_false, ↓ifP_not, Nat.reduceLT, Nat.reduceAdd, Nat.reduceBEq, Nat.reduceSub, Nat.reduceLeDiff, Nat.reduceEqDiff, Nat.reduceMul, Int.reduceToNat, Int.reduceEq, Int.reduceLT, Int.reduceLE, Int.reduceAdd, Int.reduceSub, Int.reduceMul, reduceCtorEq, cond_true, cond_false, forall_eq', forall_eq, forall_const, implies_true, if_true, if_false, exists_eq_left', exists_eq', exists_eq, ne_eq, Try.f111, tb111_102, tb111_101, tb111_103, tb111_52, tb111_100, tb111_61, spRRings_q, spRRings_A, spRRings_pre, spRRings_post, spOne_q, spOne_A, spOne_pre, spOne_post, spPick_q, spPick_A, spPick_pre, spPick_post, spSome_q, spSome_A, spSome_pre, spSome_post, spRings_q, spRings_A, spRings_pre, spRings_post, spRPath_q, spRPath_A, spRPath_pre, spRPath_post, spVRings_q, spVRings_A, spVRings_pre, spVRings_post]
  repeat' (first | apply And.intro | (intro hh; try simp only [List.mem_cons, List.not_mem_nil, or_false] at hh) | omega | assumption | with_reducible rfl)
  any_goals
    refine loopS (α := (List (List Pt)) × Int) true [1, 3, 4, 5, 6, 7, 8, 9, 10, 11, 12, 13, 14, 15, 16, 17, 18, 19, 20, 21, 22, 23, 24, 25, 26, 27, 28, 29, 30, 31, 32, 33, 34, 35, 36, 37, 38, 39, 40, 41] (fun σ => [gId (σ.get 4)]) (fun σ x => [(4, .c (.own (gId (σ.get 4)) (x.1).length false)), (5, I x.2)]) (fun σ x => [(gId (σ.get 4), some ⟨(x.1).map lptC, 1, 74, true, false⟩)]) (fun (o, n) => (15 * (3 - n)).toNat) (fun σ => (gL lptCd σ (σ.get 4), gI (σ.get 5))) (fun σ τ => [(gId (σ.get 4), gId (τ.get 4))]) (fun (o, n) => (0 ≤ n ∧ n ≤ 3) ∧ ((o.length : Int) ≤ 3 - n ∧ (total o : Int) ≤ 7 * (3 - n)) ∧ okLL o) (fun (o, n) => n.toNat) ⟨by (simp (config := { maxSteps := 1000000 }) only [go_sem, ↓ifP_true, ↓ifP_false, ↓ifP_not, Nat.reduceLT, Nat.reduceAdd, Nat.reduceBEq, Nat.reduceSub, Nat.reduceLeDiff, Nat.reduceEqDiff, Nat.reduceMul, Int.reduceToNat, Int.reduceEq, Int.reduceLT, Int.reduceLE, Int.reduceAdd, Int.reduceSub, Int.reduceMul, reduceCtorEq, cond_true, cond_false, forall_eq', forall_eq, forall_const, implies_true, if_true, if_false, exists_eq_left', exists_eq', exists_eq, ne_eq, Try.f111, tb111_102, tb111_101, tb111_103, tb111_52, tb111_100, tb111_61, spRRings_q, spRRings_A, spRRings_pre, spRRings_post, spOne_q, spOne_A, spOne_pre, spOne_post, spPick_q, spPick_A, spPick_pre, spPick_post, spSome_q, spSome_A, spSome_pre, spSome_post, spRings_q, spRings_A, spRings_pre, spRings_post, spRPath_q, spRPath_A, spRPath_pre, spRPath_post, spVRings_q, spVRings_A, spVRings_pre, spVRings_post]; (repeat' (first | apply And.intro | (intro hh; try simp only [List.mem_cons, List.not_mem_nil, or_false] at hh) | omega | assumption | with_reducible rfl)); all_goals (first | exact okLL.nil | (simp only [total, List.map_nil, List.sum_nil]; omega))), ?_⟩
    rintro ⟨o, n⟩ hinv
    try dsimp only at hinv
    simp (config := { maxSteps := 1000000 }) only [go_sem, ↓ifP_true, ↓ifP_false, ↓ifP_not, Nat.reduceLT, Nat.reduceAdd, Nat.reduceBEq, Nat.reduceSub, Nat.reduceLeDiff, Nat.reduceEqDiff, Nat.reduceMul, Int.reduceToNat, Int.reduceEq, Int.reduceLT, Int.reduceLE, Int.reduceAdd, Int.reduceSub, Int.reduceMul, reduceCtorEq, cond_true, cond_false, forall_eq', forall_eq, forall_const, implies_true, if_true, if_false, exists_eq_left', exists_eq', exists_eq, ne_eq, Try.f111, tb111_102, tb111_101, tb111_103, tb111_52, tb111_100, tb111_61, spRRings_q, spRRings_A, spRRings_pre, spRRings_post, spOne_q, spOne_A, spOne_pre, spOne_post, spPick_q, spPick_A, spPick_pre, spPick_post, spSome_q, spSome_A, spSome_pre, spSome_post, spRings_q, spRings_A, spRings_pre, spRings_post, spRPath_q, spRPath_A, spRPath_pre, spRPath_post, spVRings_q, spVRings_A, spVRings_pre, spVRings_post]
    repeat' (first | apply And.intro | (intro hh; try simp only [List.mem_cons, List.not_mem_nil, or_false] at hh) | omega | assumption | with_reducible rfl)
  
  any_goals
    refine loopS (α := (List Pt) × Int) true [1, 3, 6, 7, 8, 9, 10, 11, 12, 13, 14, 15, 16, 17, 18, 19, 20, 21, 22, 23, 24, 25, 26, 27, 28, 29, 30, 31, 32, 33, 34, 35, 36, 37] (fun σ => [gId (σ.get 6)]) (fun σ x => [(6, .c (.own (gId (σ.get 6)) (x.1).length false)), (7, I x.2)]) (fun σ x => [(gId (σ.get 6), some ⟨(x.1).map ptC, 2, 57, true, false⟩)]) (fun (q, k) => (2 * (7 - k)).toNat) (fun σ => (gL ptCd σ (σ.get 6), gI (σ.get 7))) (fun σ τ => [(gId (σ.get 6), gId (τ.get 6))]) (fun (q, k) => (0 ≤ k ∧ k ≤ 7) ∧ (q.length : Int) ≤ 7 - k ∧ okL q) (fun (q, k) => k.toNat) ⟨by (simp (config := { maxSteps := 1000000 }) only [go_sem, ↓ifP_true, ↓ifP_false, ↓ifP_not, Nat.reduceLT, Nat.reduceAdd, Nat.reduceBEq, Nat.reduceSub, Nat.reduceLeDiff, Nat.reduceEqDiff, Nat.reduceMul, Int.reduceToNat, Int.reduceEq, Int.reduceLT, Int.reduceLE, Int.reduceAdd, Int.reduceSub, Int.reduceMul, reduceCtorEq, cond_true, cond_false, forall_eq', forall_eq, forall_const, implies_true, if_true, if_false, exists_eq_left', exists_eq', exists_eq, ne_eq, Try.f111, tb111_102, tb111_101, tb111_103, tb111_52, tb111_100, tb111_61, spRRings_q, spRRings_A, spRRings_pre, spRRings_post, spOne_q, spOne_A, spOne_pre, spOne_post, spPick_q, spPick_A, spPick_pre, spPick_post, spSome_q, spSome_A, spSome_pre, spSome_post, spRings_q, spRings_A, spRings_pre, spRings_post, spRPath_q, spRPath_A, spRPath_pre, spRPath_post, spVRings_q, spVRings_A, spVRings_pre, spVRings_post]; (repeat' (first | apply And.intro | (intro hh; try simp only [List.mem_cons, List.not_mem_nil, or_false] at hh) | omega | assumption | with_reducible rfl)); all_goals (first | exact okL_nil)), ?_⟩
    rintro ⟨q, k⟩ hinv
    try dsimp only at hinv
    simp (config := { maxSteps := 1000000 }) only [go_sem, ↓ifP_true, ↓ifP_false, ↓ifP_not, Nat.reduceLT, Nat.reduceAdd, Nat.reduceBEq, Nat.reduceSub, Nat.reduceLeDiff, Nat.reduceEqDiff, Nat.reduceMul, Int.reduceToNat, Int.reduceEq, Int.reduceLT, Int.reduceLE, Int.reduceAdd, Int.reduceSub, Int.reduceMul, reduceCtorEq, cond_true, cond_false, forall_eq', forall_eq, forall_const, implies_true, if_true, if_false, exists_eq_left', exists_eq', exists_eq, ne_eq, Try.f111, tb111_102, tb111_101, tb111_103, tb111_52, tb111_100, tb111_61, spRRings_q, spRRings_A, spRRings_pre, spRRings_post, spOne_q, spOne_A, spOne_pre, spOne_post, spPick_q, spPick_A, spPick_pre, spPick_post, spSome_q, spSome_A, spSome_pre, spSome_post, spRings_q, spRings_A, spRings_pre, spRings_post, spRPath_q, spRPath_A, spRPath_pre, spRPath_post, spVRings_q, spVRings_A, spVRings_pre, spVRings_post]
    repeat' (first | apply And.intro | (intro hh; try simp only [List.mem_cons, List.not_mem_nil, or_false] at hh) | omega | assumption | with_reducible rfl)
  all_goals (first | ((have h1 := rings_ok ‹vPath _ = true›; omega); done) | ((have h1 := rings_total ‹vPath _ = true›; omega); done) | ((have h1 := rings_ok ‹vPath _ = true›; have h2 := vRings_len ‹_›; exact ⟨_, rfl, rfl, h2.1, h2.2, h1.1⟩); done) | (exact okL_snoc hinv.2.2 (okP_rng ‹_› ‹_› ‹_› ‹_›); done) | ((rw [total_snoc]; rename_i h1 _ _; have h1 := hinv.2.1; omega); done) | ((rw [total_snoc]; omega); done) | (exact okLL.snoc (by assumption) hinv.2.2; done) | ((rename_i h1 _ _ _; exact h1.2.2.snoc hinv.2.2); done) | ((rename_i h1 _ _; exact h1.2.2.snoc hinv.2.2); done) | ((rename_i h1 _; exact h1.2.2.snoc hinv.2.2); done) | (exact ⟨_, rfl, rfl, by omega, by omega, hinv.2.2⟩; done))
theorem sat_spec_randomRings : Sat Try.prog rt0 111 (wkIn spRRings) := sat_in (sat_out sat_spec_randomRings_0)
end Go.Proofs.Ytdkfamajaopgoaa
end
section
set_option maxRecDepth 100000
set_option linter.unusedSimpArgs false
set_option linter.unusedVariables false
namespace Go.Proofs.Ytdkfamajaopgoaa
open Go Go.VE
theorem okLL.one {L : List (List Pt)} {p : Pt} (h : okLL L) (h1 : -16 ≤ p.x) (h2 : p.x ≤ 207) (h3 : -16 ≤ p.y) (h4 : p.y ≤ 207) : okLL (L ++ [[p]]) := h.snoc (okL_cons (okP_rng h1 h2 h3 h4) okL_nil)
theorem okLL.any {L : List (List Pt)} {p : Pt} (h : okLL L) (h1 : -1001 ≤ p.x) (h2 : p.x ≤ 1001) (h3 : -1001 ≤ p.y) (h4 : p.y ≤ 1001) : okLL (L ++ [[p]]) := h.snoc (okL_cons (okP_any h1 h2 h3 h4) okL_nil)
def spARings_A : Unit → List AV
  | () => [.c .rdr]
def spARings_pre : Unit → Prop
  | () => True
def spARings_post : Unit → AV → List Box → Prop
  | (), r, bs => ∃ L, r = .c (.own 0 L.length false) ∧ bs = [⟨L.map lptC, 1, 74, true, false⟩] ∧ L.length ≤ 9 ∧ total L ≤ 210 ∧ okLL L
def spARings : VE.Spec := famSpec spARings_A d_r spARings_pre spARings_post 180 false
theorem spARings_q : spARings.flat = false ∧ spARings.mt = [] ∧ spARings.shut = false ∧ spARings.cost = 180 ∧ (∀ a i, spARings.pre a i = (i = [] ∧ famPre d_r spARings_A spARings_pre a)) ∧ ∀ a i r b, spARings.post a i r b = (famPost d_r spARings_post a r b) := ⟨rfl, rfl, rfl, rfl, fun _ _ => rfl, fun _ _ _ _ => rfl⟩
def tb54 : Nat → Option VE.Spec := tabOf [(101, wkIn spPick), (103, wkIn spSome), (93, wkIn spAnyP), (111, wkIn spRRings)]
theorem tb54_101 : tb54 101 = some (wkIn spPick) := rfl
theorem tb54_103 : tb54 103 = some (wkIn spSome) := rfl
theorem tb54_93 : tb54 93 = some (wkIn spAnyP) := rfl
theorem tb54_111 : tb54 111 = some (wkIn spRRings) := rfl
theorem tb54_ok : TabOK Try.prog rt0 tb54 := (tabOf_cons (by kernel_rfl) sat_spec_reader_pick (tabOf_cons (by kernel_rfl) sat_spec_somePoint (tabOf_cons (by kernel_rfl) sat_spec_anyPoint (tabOf_cons (by kernel_rfl) sat_spec_randomRings tabOf_nil))))
set_option maxHeartbeats 4000000 in
theorem sat_spec_anyRings_0 : Sat Try.prog rt0 54 (wkOut spARings) := by
  refine fn_sat hm ttok (tab := tb54) tb54_ok Try.func54 (c := Try.f54.body.getD .skip) (by kernel_rfl) (ts := [.tmp 2]) (by kernel_rfl) Try.ntmps54 (sq := fun _ => true) (by kernel_rfl) ?_
  intro args ins pk hpre0 hpk
  obtain ⟨rfl, hpre0⟩ := hpre0
  obtain ⟨⟨⟩, rfl, hpre, hdec⟩ := famPre_ex hpre0
  clear hpre0 hdec
  try simp only [spARings_pre] at hpre
  replace hpk : pk + 180 ≤ pickLimit := hpk
  refine ⟨Nat.le_of_ble_eq_true rfl, ?_⟩
  simp (config := { maxSteps := 1000000 }) only [go_sem, ↓ifP_true, ↓ifP_false, ↓ifP_not, Nat.reduceLT, Nat.reduceAdd, Nat.reduceBEq, Nat.reduceSub, Nat.reduceLeDiff, Nat.reduceEqDiff, Nat.reduceMul, Int.reduceToNat, Int.reduceEq, Int.reduceLT, Int.reduceLE, Int.reduceAdd, Int.reduceSub, Int.reduceMul, reduceCtorEq, cond_true, cond_false, forall_eq', forall_eq, forall_const, implies_true, if_true, if_false, exists_eq_left', exists_eq', exists_eq, ne_eq, Try.f54, tb54_101, tb54_103, tb54_93, tb54_111, spARings_q, spARings_A, spARings_pre, spARings_post, spPick_q, spPick_A, spPick_pre, spPick_post, spSome_q, spSome_A, spSome_pre, spSome_post, spAnyP_q, spAnyP_A, spAnyP_pre, spAnyP_post, spRRings_q, spRRings_A, spRRings_pre, spRRings_post]
  repeat' (first | apply And.intro | (intro hh; try simp only [List.mem_cons, List.not_mem_nil, or_false] at hh) | omega | assumption | with_reducible rfl)
  any_goals
    refine loopS (α := (List (List Pt))) true [1, 3, 4, 5, 6, 7, 8, 9, 10, 11, 12, 13, 14, 15, 16, 17, 18, 19, 20, 21, 22, 23, 24, 25, 26, 27, 28, 29, 30, 31, 32] (fun σ => [gId (σ.get 3)]) (fun σ x => [(3, .c (.own (gId (σ.get 3)) (x).length false))]) (fun σ x => [(gId (σ.get 3), some ⟨(x).map lptC, 1, 74, true, false⟩)]) (fun o => 2 * o.length) (fun σ => gL lptCd σ (σ.get 3)) (fun σ τ => [(gId (σ.get 3), gId (τ.get 3))]) (fun o => o.length ≤ 9 ∧ total o ≤ 200 + o.length ∧ okLL o) (fun o => 9 - o.length) ⟨by (simp (config := { maxSteps := 1000000 }) only [go_sem, ↓ifP_true, ↓ifP_false, ↓ifP_not, Nat.reduceLT, Nat.reduceAdd, Nat.reduceBEq, Nat.reduceSub, Nat.reduceLeDiff, Nat.reduceEqDiff, Nat.reduceMul, Int.reduceToNat, Int.reduceEq, Int.reduceLT, Int.reduceLE, Int.reduceAdd, Int.reduceSub, Int.reduceMul, reduceCtorEq, cond_true, cond_false, forall_eq', forall_eq, forall_const, implies_true, if_true, if_false, exists_eq_left', exists_eq', exists_eq, ne_eq, Try.f54, tb54_101, tb54_103, tb54_93, tb54_111, spARings_q, spARings_A, spARings_pre, spARings_post, spPick_q, spPick_A, spPick_pre, spPick_post, spSome_q, spSome_A, spSome_pre, spSome_post, spAnyP_q, spAnyP_A, spAnyP_pre, spAnyP_post, spRRings_q, spRRings_A, spRRings_pre, spRRings_post]; (repeat' (first | apply And.intro | (intro hh; try simp only [List.mem_cons, List.not_mem_nil, or_false] at hh) | omega | assumption | with_reducible rfl)); all_goals (first | assumption)), ?_⟩
    rintro o hinv
    try dsimp only at hinv
    simp (config := { maxSteps := 1000000 }) only [go_sem, ↓ifP_true, ↓ifP_false, ↓ifP_not, Nat.reduceLT, Nat.reduceAdd, Nat.reduceBEq, Nat.reduceSub, Nat.reduceLeDiff, Nat.reduceEqDiff, Nat.reduceMul, Int.reduceToNat, Int.reduceEq, Int.reduceLT, Int.reduceLE, Int.reduceAdd, Int.reduceSub, Int.reduceMul, reduceCtorEq, cond_true, cond_false, forall_eq', forall_eq, forall_const, implies_true, if_true, if_false, exists_eq_left', exists_eq', exists_eq, ne_eq, Try.f54, tb54_101, tb54_103, tb54_93, tb54_111, spARings_q, spARings_A, spARings_pre, spARings_post, spPick_q, spPick_A, spPick_pre, spPick_post, spSome_q, spSome_A, spSome_pre, spSome_post, spAnyP_q, spAnyP_A, spAnyP_pre, spAnyP_post, spRRings_q, spRRings_A, spRRings_pre, spRRings_post]
    repeat' (first | apply And.intro | (intro hh; try simp only [List.mem_cons, List.not_mem_nil, or_false] at hh) | omega | assumption | with_reducible rfl)
  
  all_goals (first | ((rw [total_snoc]; simp only [List.length_append, List.length_singleton]; omega); done) | ((rw [List.length_append, List.length_singleton]; omega); done) | (exact hinv.2.2.one ‹_› ‹_› ‹_› ‹_›; done) | (exact ⟨_, rfl, rfl, by omega, by omega, hinv.2.2⟩; done) | (exact ⟨_, rfl, rfl, by omega, by omega, by assumption⟩; done) | (exact ⟨‹List (List Pt)› ++ [[]], by rw [List.length_append]; rfl, lpt_map _ [], by rw [List.length_append, List.length_singleton]; omega, by rw [total_snoc]; simp only [List.length_nil]; omega, okLL.snoc ‹_› okL_nil⟩; done) | (exact ⟨‹List (List Pt)› ++ [[‹Pt›]], by rw [List.length_append]; rfl, lpt_map _ [‹Pt›], by rw [List.length_append, List.length_singleton]; omega, by rw [total_snoc]; simp only [List.length_singleton]; omega, okLL.any ‹_› ‹_› ‹_› ‹_› ‹_›⟩; done))
theorem sat_spec_anyRings : Sat Try.prog rt0 54 (wkIn spARings) := sat_in (sat_out sat_spec_anyRings_0)
end Go.Proofs.Ytdkfamajaopgoaa
end
section
set_option maxRecDepth 100000
set_option linter.unusedSimpArgs false
set_option linter.unusedVariables false
namespace Go.Proofs.Ytdkfamajaopgoaa
open Go Go.VE
def spCorners_A : (List (List Pt)) → List AV
  | L => [.c (.sl false (L.map lptC))]
def spCorners_pre : (List (List Pt)) → Prop
  | L => L.length ≤ 1000000000 ∧ total L ≤ 1000000000
def spCorners_post : (List (List Pt)) → AV → List Box → Prop
  | L, r, bs => r = .c (.own 0 (L.flatten).length false) ∧ bs = [⟨(L.flatten).map ptC, 2, 57, true, false⟩]
def spCorners : VE.Spec := famSpec spCorners_A d_llpt spCorners_pre spCorners_post 0 true
theorem spCorners_q : spCorners.flat = true ∧ spCorners.mt = [] ∧ spCorners.shut = false ∧ spCorners.cost = 0 ∧ (∀ a i, spCorners.pre a i = (i = [] ∧ famPre d_llpt spCorners_A spCorners_pre a)) ∧ ∀ a i r b, spCorners.post a i r b = (famPost d_llpt spCorners_post a r b) := ⟨rfl, rfl, rfl, rfl, fun _ _ => rfl, fun _ _ _ _ => rfl⟩
theorem flat_snoc (L : List (List Pt)) (r : List Pt) : (L ++ [r]).flatten = L.flatten ++ r := by simp
theorem flat_len (L : List (List Pt)) : L.flatten.length = total L := by simp [total, List.length_flatten]
theorem flat_ok {L : List (List Pt)} {k : Int} {p : Pt} (h : okLL L) (hp : L.flatten[k.toNat]? = some p) : okP p := by
  obtain ⟨r, hr, hm⟩ := List.mem_flatten.1 (List.mem_of_getElem? hp)
  exact (h.all r hr).all p hm
def tb124 : Nat → Option VE.Spec := tabOf []
theorem tb124_ok : TabOK Try.prog rt0 tb124 := tabOf_nil
set_option maxHeartbeats 4000000 in
theorem sat_spec_corners_0 : Sat Try.prog rt0 124 (wkOut spCorners) := by
  refine fn_sat hm ttok (tab := tb124) tb124_ok Try.func124 (c := Try.f124.body.getD .skip) (by kernel_rfl) (ts := [.tmp 2]) (by kernel_rfl) Try.ntmps124 (sq := fun _ => true) (by kernel_rfl) ?_
  intro args ins pk hpre0 hpk
  obtain ⟨rfl, hpre0⟩ := hpre0
  obtain ⟨L, rfl, hpre, hdec⟩ := famPre_ex hpre0
  clear hpre0 hdec
  try simp only [spCorners_pre] at hpre
  replace hpk : pk + 0 ≤ pickLimit := hpk
  refine ⟨Nat.le_of_ble_eq_true rfl, ?_⟩
  simp (config := { maxSteps := 1000000 }) only [go_sem, ↓ifP_true, ↓ifP_false, ↓ifP_not, Nat.reduceLT, Nat.reduceAdd, Nat.reduceBEq, Nat.reduceSub, Nat.reduceLeDiff, Nat.reduceEqDiff, Nat.reduceMul, Int.reduceToNat, Int.reduceEq, Int.reduceLT, Int.reduceLE, Int.reduceAdd, Int.reduceSub, Int.reduceMul, reduceCtorEq, cond_true, cond_false, forall_eq', forall_eq, forall_const, implies_true, if_true, if_false, exists_eq_left', exists_eq', exists_eq, ne_eq, Try.f124, spCorners_q, spCorners_A, spCorners_pre, spCorners_post]
  repeat' (first | apply And.intro | (intro _) | omega | assumption | with_reducible rfl)
  refine loopS (α := (List Pt) × Int) false [1, 3, 4, 5, 6, 7, 8, 9, 10, 11, 12, 13, 14, 15, 16, 17] (fun σ => [gId (σ.get 3)]) (fun σ x => [(3, .c (.own (gId (σ.get 3)) (x.1).length false)), (4, I x.2)]) (fun σ x => [(gId (σ.get 3), some ⟨(x.1).map ptC, 2, 57, true, false⟩)]) (fun (o, i) => 0) (fun σ => (gL ptCd σ (σ.get 3), gI (σ.get 4))) (fun σ τ => [(gId (σ.get 3), gId (τ.get 3))]) (fun (o, i) => 0 ≤ i ∧ i ≤ L.length ∧ o = (L.take i.toNat).flatten) (fun (o, i) => (L.length - i).toNat) ⟨by (simp (config := { maxSteps := 1000000 }) only [go_sem, ↓ifP_true, ↓ifP_false, ↓ifP_not, Nat.reduceLT, Nat.reduceAdd, Nat.reduceBEq, Nat.reduceSub, Nat.reduceLeDiff, Nat.reduceEqDiff, Nat.reduceMul, Int.reduceToNat, Int.reduceEq, Int.reduceLT, Int.reduceLE, Int.reduceAdd, Int.reduceSub, Int.reduceMul, reduceCtorEq, cond_true, cond_false, forall_eq', forall_eq, forall_const, implies_true, if_true, if_false, exists_eq_left', exists_eq', exists_eq, ne_eq, Try.f124, spCorners_q, spCorners_A, spCorners_pre, spCorners_post]; (repeat' (first | apply And.intro | (intro _) | omega | assumption | with_reducible rfl)); all_goals (first | rfl)), ?_⟩
  rintro ⟨o, i⟩ hinv
  try dsimp only at hinv
  rcases elemAt L i (by omega) with ⟨hlt, r, hk⟩ | hlt
  all_goals (first | ((have hlt2 := of_eq_true hlt); (have hT := total_mem hk); all_goals simp (config := { maxSteps := 1000000 }) only [go_sem, ↓ifP_true, ↓ifP_false, ↓ifP_not, Nat.reduceLT, Nat.reduceAdd, Nat.reduceBEq, Nat.reduceSub, Nat.reduceLeDiff, Nat.reduceEqDiff, Nat.reduceMul, Int.reduceToNat, Int.reduceEq, Int.reduceLT, Int.reduceLE, Int.reduceAdd, Int.reduceSub, Int.reduceMul, reduceCtorEq, cond_true, cond_false, forall_eq', forall_eq, forall_const, implies_true, if_true, if_false, exists_eq_left', exists_eq', exists_eq, ne_eq, Try.f124, spCorners_q, spCorners_A, spCorners_pre, spCorners_post, hlt, hk]) | (have hlt2 := of_eq_false hlt; simp (config := { maxSteps := 1000000 }) only [go_sem, ↓ifP_true, ↓ifP_false, ↓ifP_not, Nat.reduceLT, Nat.reduceAdd, Nat.reduceBEq, Nat.reduceSub, Nat.reduceLeDiff, Nat.reduceEqDiff, Nat.reduceMul, Int.reduceToNat, Int.reduceEq, Int.reduceLT, Int.reduceLE, Int.reduceAdd, Int.reduceSub, Int.reduceMul, reduceCtorEq, cond_true, cond_false, forall_eq', forall_eq, forall_const, implies_true, if_true, if_false, exists_eq_left', exists_eq', exists_eq, ne_eq, Try.f124, spCorners_q, spCorners_A, spCorners_pre, spCorners_post, hlt]))
  all_goals
    repeat' (first | apply And.intro | (intro _) | omega | assumption | with_reducible rfl)
  all_goals (first | ((obtain ⟨h0, h1, rfl⟩ := hinv; rw [flat_len]; omega); done) | ((obtain ⟨h0, h1, rfl⟩ := hinv; rw [takeN hk h0, flat_snoc]); done) | ((obtain ⟨h0, h1, rfl⟩ := hinv; rw [takeA (by omega)]); done))
theorem sat_spec_corners : Sat Try.prog rt0 124 (wkIn spCorners) := sat_in (sat_out sat_spec_corners_0)
def spNear_A : (List (List Pt)) → List AV
  | L => [.c .rdr, .c (.sl false (L.map lptC))]
def spNear_pre : (List (List Pt)) → Prop
  | L => L.length ≤ 1000000000 ∧ total L ≤ 1000000000 ∧ okLL L
def spNear_post : (List (List Pt)) → AV → List Box → Prop
  | L, r, bs => ∃ p : Pt, r = .agg (ptC p) ∧ bs = [] ∧ okP p
def spNear : VE.Spec := famSpec spNear_A d_r_llpt spNear_pre spNear_post 6 false
theorem spNear_q : spNear.flat = false ∧ spNear.mt = [] ∧ spNear.shut = false ∧ spNear.cost = 6 ∧ (∀ a i, spNear.pre a i = (i = [] ∧ famPre d_r_llpt spNear_A spNear_pre a)) ∧ ∀ a i r b, spNear.post a i r b = (famPost d_r_llpt spNear_post a r b) := ⟨rfl, rfl, rfl, rfl, fun _ _ => rfl, fun _ _ _ _ => rfl⟩
end Go.Proofs.Ytdkfamajaopgoaa
end
section
set_option maxRecDepth 100000
set_option linter.unusedSimpArgs false
set_option linter.unusedVariables false
namespace Go.Proofs.Ytdkfamajaopgoaa
open Go Go.VE
def spPlace_A : Unit → List AV
  | () => [.c .rdr]
def spPlace_pre : Unit → Prop
  | () => True
def spPlace_post : Unit → AV → List Box → Prop
  | (), r, bs => ∃ m, r = I m ∧ bs = [] ∧ m ∈ ([0, 3, 5, 7, 11, 4, 12, -1, 8] : List Int)
def spPlace : VE.Spec := famSpec spPlace_A d_r spPlace_pre spPlace_post 1 false
theorem spPlace_q : spPlace.flat = false ∧ spPlace.mt = [] ∧ spPlace.shut = false ∧ spPlace.cost = 1 ∧ (∀ a i, spPlace.pre a i = (i = [] ∧ famPre d_r spPlace_A spPlace_pre a)) ∧ ∀ a i r b, spPlace.post a i r b = (famPost d_r spPlace_post a r b) := ⟨rfl, rfl, rfl, rfl, fun _ _ => rfl, fun _ _ _ _ => rfl⟩
def spSide9_A : Unit → List AV
  | () => [.c .rdr]
def spSide9_pre : Unit → Prop
  | () => True
def spSide9_post : Unit → AV → List Box → Prop
  | (), r, bs => ∃ m, r = I m ∧ bs = [] ∧ m ∈ ([4, 5, 8, 3, 12, 1, 9, 0, 13] : List Int)
def spSide9 : VE.Spec := famSpec spSide9_A d_r spSide9_pre spSide9_post 1 false
theorem spSide9_q : spSide9.flat = false ∧ spSide9.mt = [] ∧ spSide9.shut = false ∧ spSide9.cost = 1 ∧ (∀ a i, spSide9.pre a i = (i = [] ∧ famPre d_r spSide9_A spSide9_pre a)) ∧ ∀ a i r b, spSide9.post a i r b = (famPost d_r spSide9_post a r b) := ⟨rfl, rfl, rfl, rfl, fun _ _ => rfl, fun _ _ _ _ => rfl⟩
def tb56 : Nat → Option VE.Spec := tabOf [(102, wkIn spOne)]
theorem tb56_102 : tb56 102 = some (wkIn spOne) := rfl
theorem tb56_ok : TabOK Try.prog rt0 tb56 := (tabOf_cons (by kernel_rfl) sat_spec_reader_one tabOf_nil)
set_option maxHeartbeats 4000000 in
theorem sat_spec_anySide_0 : Sat Try.prog rt0 56 (wkOut spSide9) := by
  refine fn_sat hm ttok (tab := tb56) tb56_ok Try.func56 (c := Try.f56.body.getD .skip) (by kernel_rfl) (ts := [.tmp 2]) (by kernel_rfl) Try.ntmps56 (sq := fun _ => true) (by kernel_rfl) ?_
  intro args ins pk hpre0 hpk
  obtain ⟨rfl, hpre0⟩ := hpre0
  obtain ⟨⟨⟩, rfl, hpre, hdec⟩ := famPre_ex hpre0
  clear hpre0 hdec
  try simp only [spSide9_pre] at hpre
  replace hpk : pk + 1 ≤ pickLimit := hpk
  refine ⟨Nat.le_of_ble_eq_true rfl, ?_⟩
  simp (config := { maxSteps := 1000000 }) only [go_sem, ↓ifP_true, ↓ifP_false, ↓ifP_not, Nat.reduceLT, Nat.reduceAdd, Nat.reduceBEq, Nat.reduceSub, Nat.reduceLeDiff, Nat.reduceEqDiff, Nat.reduceMul, Int.reduceToNat, Int.reduceEq, Int.reduceLT, Int.reduceLE, Int.reduceAdd, Int.reduceSub, Int.reduceMul, reduceCtorEq, cond_true, cond_false, forall_eq', forall_eq, forall_const, implies_true, if_true, if_false, exists_eq_left', exists_eq', exists_eq, ne_eq, Try.f56, tb56_102, spSide9_q, spSide9_A, spSide9_pre, spSide9_post, spOne_q, spOne_A, spOne_pre, spOne_post]
  repeat' (first | apply And.intro | (intro _) | omega | assumption | with_reducible rfl)
  all_goals (first | (exact ⟨_, rfl, ‹_›⟩; done) | (simp_all; done) | (grind; done))
theorem sat_spec_anySide : Sat Try.prog rt0 56 (wkIn spSide9) := sat_in (sat_out sat_spec_anySide_0)
def spTile_A : Unit → List AV
  | () => [.c .rdr]
def spTile_pre : Unit → Prop
  | () => True
def spTile_post : Unit → AV → List Box → Prop
  | (), r, bs => ∃ m, r = I m ∧ bs = [] ∧ m ∈ ([0, 1, 2, 3, 0, 1, 5, 8, 9, -1] : List Int)
def spTile : VE.Spec := famSpec spTile_A d_r spTile_pre spTile_post 1 false
theorem spTile_q : spTile.flat = false ∧ spTile.mt = [] ∧ spTile.shut = false ∧ spTile.cost = 1 ∧ (∀ a i, spTile.pre a i = (i = [] ∧ famPre d_r spTile_A spTile_pre a)) ∧ ∀ a i r b, spTile.post a i r b = (famPost d_r spTile_post a r b) := ⟨rfl, rfl, rfl, rfl, fun _ _ => rfl, fun _ _ _ _ => rfl⟩
def tb73 : Nat → Option VE.Spec := tabOf [(102, wkIn spOne)]
theorem tb73_102 : tb73 102 = some (wkIn spOne) := rfl
theorem tb73_ok : TabOK Try.prog rt0 tb73 := (tabOf_cons (by kernel_rfl) sat_spec_reader_one tabOf_nil)
set_option maxHeartbeats 4000000 in
theorem sat_spec_someTile_0 : Sat Try.prog rt0 73 (wkOut spTile) := by
  refine fn_sat hm ttok (tab := tb73) tb73_ok Try.func73 (c := Try.f73.body.getD .skip) (by kernel_rfl) (ts := [.tmp 2]) (by kernel_rfl) Try.ntmps73 (sq := fun _ => true) (by kernel_rfl) ?_
  intro args ins pk hpre0 hpk
  obtain ⟨rfl, hpre0⟩ := hpre0
  obtain ⟨⟨⟩, rfl, hpre, hdec⟩ := famPre_ex hpre0
  clear hpre0 hdec
  try simp only [spTile_pre] at hpre
  replace hpk : pk + 1 ≤ pickLimit := hpk
  refine ⟨Nat.le_of_ble_eq_true rfl, ?_⟩
  simp (config := { maxSteps := 1000000 }) only [go_sem, ↓ifP_true, ↓ifP_false, ↓ifP_not, Nat.reduceLT, Nat.reduceAdd, Nat.reduceBEq, Nat.reduceSub, Nat.reduceLeDiff, Nat.reduceEqDiff, Nat.reduceMul, Int.reduceToNat, Int.reduceEq, Int.reduceLT, Int.reduceLE, Int.reduceAdd, Int.reduceSub, Int.reduceMul, reduceCtorEq, cond_true, cond_false, forall_eq', forall_eq, forall_const, implies_true, if_true, if_false, exists_eq_left', exists_eq', exists_eq, ne_eq, Try.f73, tb73_102, spTile_q, spTile_A, spTile_pre, spTile_post, spOne_q, spOne_A, spOne_pre, spOne_post]
  repeat' (first | apply And.intro | (intro _) | omega | assumption | with_reducible rfl)
  all_goals (first | (exact ⟨_, rfl, ‹_›⟩; done) | (simp_all; done) | (grind; done))
theorem sat_spec_someTile : Sat Try.prog rt0 73 (wkIn spTile) := sat_in (sat_out sat_spec_someTile_0)
def spRule_A : Unit → List AV
  | () => [.c .rdr]
def spRule_pre : Unit → Prop
  | () => True
def spRule_post : Unit → AV → List Box → Prop
  | (), r, bs => ∃ m, r = I m ∧ bs = [] ∧ m ∈ ([0, 1, 0, 1, 0, 1, 2, -1] : List Int)
def spRule : VE.Spec := famSpec spRule_A d_r spRule_pre spRule_post 1 false
theorem spRule_q : spRule.flat = false ∧ spRule.mt = [] ∧ spRule.shut = false ∧ spRule.cost = 1 ∧ (∀ a i, spRule.pre a i = (i = [] ∧ famPre d_r spRule_A spRule_pre a)) ∧ ∀ a i r b, spRule.post a i r b = (famPost d_r spRule_post a r b) := ⟨rfl, rfl, rfl, rfl, fun _ _ => rfl, fun _ _ _ _ => rfl⟩
def tb55 : Nat → Option VE.Spec := tabOf [(102, wkIn spOne)]
theorem tb55_102 : tb55 102 = some (wkIn spOne) := rfl
theorem tb55_ok : TabOK Try.prog rt0 tb55 := (tabOf_cons (by kernel_rfl) sat_spec_reader_one tabOf_nil)
set_option maxHeartbeats 4000000 in
theorem sat_spec_anyRule_0 : Sat Try.prog rt0 55 (wkOut spRule) := by
  refine fn_sat hm ttok (tab := tb55) tb55_ok Try.func55 (c := Try.f55.body.getD .skip) (by kernel_rfl) (ts := [.tmp 2]) (by kernel_rfl) Try.ntmps55 (sq := fun _ => true) (by kernel_rfl) ?_
  intro args ins pk hpre0 hpk
  obtain ⟨rfl, hpre0⟩ := hpre0
  obtain ⟨⟨⟩, rfl, hpre, hdec⟩ := famPre_ex hpre0
  clear hpre0 hdec
  try simp only [spRule_pre] at hpre
  replace hpk : pk + 1 ≤ pickLimit := hpk
  refine ⟨Nat.le_of_ble_eq_true rfl, ?_⟩
  simp (config := { maxSteps := 1000000 }) only [go_sem, ↓ifP_true, ↓ifP_false, ↓ifP_not, Nat.reduceLT, Nat.reduceAdd, Nat.reduceBEq, Nat.reduceSub, Nat.reduceLeDiff, Nat.reduceEqDiff, Nat.reduceMul, Int.reduceToNat, Int.reduceEq, Int.reduceLT, Int.reduceLE, Int.reduceAdd, Int.reduceSub, Int.reduceMul, reduceCtorEq, cond_true, cond_false, forall_eq', forall_eq, forall_const, implies_true, if_true, if_false, exists_eq_left', exists_eq', exists_eq, ne_eq, Try.f55, tb55_102, spRule_q, spRule_A, spRule_pre, spRule_post, spOne_q, spOne_A, spOne_pre, spOne_post]
  repeat' (first | apply And.intro | (intro _) | omega | assumption | with_reducible rfl)
  all_goals (first | (exact ⟨_, rfl, ‹_›⟩; done) | (simp_all; done) | (grind; done))
theorem sat_spec_anyRule : Sat Try.prog rt0 55 (wkIn spRule) := sat_in (sat_out sat_spec_anyRule_0)
def spRow_A : Unit → List AV
  | () => [.c .rdr]
def spRow_pre : Unit → Prop
  | () => True
def spRow_post : Unit → AV → List Box → Prop
  | (), r, bs => ∃ m, r = I m ∧ bs = [] ∧ m ∈ ([0, 10, 20, 30, 40, 47, 48, -1, 5] : List Int)
def spRow : VE.Spec := famSpec spRow_A d_r spRow_pre spRow_post 1 false
theorem spRow_q : spRow.flat = false ∧ spRow.mt = [] ∧ spRow.shut = false ∧ spRow.cost = 1 ∧ (∀ a i, spRow.pre a i = (i = [] ∧ famPre d_r spRow_A spRow_pre a)) ∧ ∀ a i r b, spRow.post a i r b = (famPost d_r spRow_post a r b) := ⟨rfl, rfl, rfl, rfl, fun _ _ => rfl, fun _ _ _ _ => rfl⟩
end Go.Proofs.Ytdkfamajaopgoaa
end
