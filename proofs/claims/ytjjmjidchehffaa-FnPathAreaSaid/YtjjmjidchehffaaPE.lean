/- Contracts of functions of the program vectorraster, each proved for all states that fit its description. No conditions. -/
import Derived.Test.YtjjmjidchehffaaPD
import Derived.Test.YtjjmjidchehffaaPC
import Derived.Test.YtjjmjidchehffaaPA
set_option linter.unusedSimpArgs false
set_option linter.unusedVariables false
section
set_option maxRecDepth 100000
set_option linter.unusedSimpArgs false
set_option linter.unusedVariables false
namespace Go.Proofs.Ytjjmjidchehffaa
open Go Go.VE
structure okLL (L : List (List Pt)) : Prop where
  all : ∀ r ∈ L, okL r
theorem okLL.nil : okLL [] := ⟨by intro r hr; cases hr⟩
theorem okLL.snoc {L : List (List Pt)} {r : List Pt} (h : okLL L) (hr : okL r) : okLL (L ++ [r]) := ⟨fun q hq => (List.mem_append.1 hq).elim (h.all q) (fun e => by rw [List.mem_singleton] at e; exact e ▸ hr)⟩
theorem rings_ok {p : List Verb} (h : vPath p = true) : okLL (ringsOf p) ∧ (ringsOf p).length ≤ 31 ∧ ∀ r ∈ ringsOf p, r.length ≤ 241 := by
  have h30 := vPath_len h
  have := ringInv_at h p.length (Nat.le_refl _)
  rw [List.take_length] at this
  obtain ⟨h1, h2, h3, h4, h5⟩ := this
  unfold ringsOf
  split
  · exact ⟨⟨fun r hr => (h5 r hr).1⟩, by omega, fun r hr => by have := (h5 r hr).2.2; omega⟩
  · refine ⟨okLL.snoc ⟨fun r hr => (h5 r hr).1⟩ h1, by rw [List.length_append, List.length_singleton]; omega, fun r hr => ?_⟩
    rcases List.mem_append.1 hr with hr | hr
    · have := (h5 r hr).2.2; omega
    · rw [List.mem_singleton] at hr; subst hr; omega
theorem total_le {L : List (List Pt)} {n : Nat} (h : ∀ r ∈ L, r.length ≤ n) : total L ≤ L.length * n := by
  induction L with
  | nil => simp [total]
  | cons r L ih =>
    have h1 := h r (by simp)
    have h2 := ih fun q hq => h q (by simp [hq])
    simp only [total, List.map_cons, List.sum_cons, List.length_cons, Nat.add_mul] at *
    omega
theorem rings_total {p : List Verb} (h : vPath p = true) : total (ringsOf p) ≤ 10000 := by
  obtain ⟨_, h1, h2⟩ := rings_ok h
  have := total_le h2
  have := Nat.mul_le_mul_right 241 h1
  omega
theorem vRings_len {L : List (List Pt)} (h : vRings L = true) : L.length ≤ 8 ∧ total L ≤ 200 := by
  simp only [vRings, Bool.and_eq_true, decide_eq_true_eq] at h
  exact ⟨h.1.2, h.2⟩
theorem okP_rng {p : Pt} (h1 : -16 ≤ p.x) (h2 : p.x ≤ 207) (h3 : -16 ≤ p.y) (h4 : p.y ≤ 207) : okP p := by constructor <;> omega
theorem okP_any {p : Pt} (h1 : -1001 ≤ p.x) (h2 : p.x ≤ 1001) (h3 : -1001 ≤ p.y) (h4 : p.y ≤ 1001) : okP p := by constructor <;> omega
theorem okL_snoc {l : List Pt} {p : Pt} (h : okL l) (hp : okP p) : okL (l ++ [p]) := okL_app h (okL_cons hp okL_nil)
def spRRings_A : Unit → List AV
  | () => [.c .rdr]
def spRRings_pre : Unit → Prop
  | () => True
def spRRings_post : Unit → AV → List Box → Prop
  | (), r, bs => ∃ L, r = .c (.own 0 L.length false) ∧ bs = [⟨L.map lptC, 1, 36, true, false⟩] ∧ L.length ≤ 8 ∧ total L ≤ 200 ∧ okLL L
def spRRings : VE.Spec := famSpec spRRings_A d_r spRRings_pre spRRings_post 160 false
theorem spRRings_q : spRRings.flat = false ∧ spRRings.mt = [] ∧ spRRings.shut = false ∧ spRRings.cost = 160 ∧ (∀ a i, spRRings.pre a i = (i = [] ∧ famPre d_r spRRings_A spRRings_pre a)) ∧ ∀ a i r b, spRRings.post a i r b = (famPost d_r spRRings_post a r b) := ⟨rfl, rfl, rfl, rfl, fun _ _ => rfl, fun _ _ _ _ => rfl⟩
def tb92 : Nat → Option VE.Spec := tabOf [(52, wkIn spOne), (51, wkIn spPick), (94, wkIn spSome), (82, wkIn spRings), (106, wkIn spRPath), (63, wkIn spVRings)]
theorem tb92_52 : tb92 52 = some (wkIn spOne) := rfl
theorem tb92_51 : tb92 51 = some (wkIn spPick) := rfl
theorem tb92_94 : tb92 94 = some (wkIn spSome) := rfl
theorem tb92_82 : tb92 82 = some (wkIn spRings) := rfl
theorem tb92_106 : tb92 106 = some (wkIn spRPath) := rfl
theorem tb92_63 : tb92 63 = some (wkIn spVRings) := rfl
theorem tb92_ok : TabOK Try.prog rt0 tb92 := (tabOf_cons (by kernel_rfl) sat_spec_reader_one (tabOf_cons (by kernel_rfl) sat_spec_reader_pick (tabOf_cons (by kernel_rfl) sat_spec_somePoint (tabOf_cons (by kernel_rfl) sat_spec_rings (tabOf_cons (by kernel_rfl) sat_spec_randomPath (tabOf_cons (by kernel_rfl) sat_spec_validRings tabOf_nil))))))
set_option maxHeartbeats 4000000 in
theorem sat_spec_randomRings_0 : Sat Try.prog rt0 92 (wkOut spRRings) := by
  refine fn_sat hm ttok (tab := tb92) tb92_ok Try.func92 (c := Try.f92.body.getD .skip) (by kernel_rfl) (ts := [.tmp 2]) (by kernel_rfl) Try.ntmps92 (sq := fun _ => true) (by kernel_rfl) ?_
  intro args ins pk hpre0 hpk
  obtain ⟨rfl, hpre0⟩ := hpre0
  obtain ⟨⟨⟩, rfl, hpre, hdec⟩ := famPre_ex hpre0
  clear hpre0 hdec
  try simp only [spRRings_pre] at hpre
  replace hpk : pk + 160 ≤ pickLimit := hpk
  refine ⟨Nat.le_of_ble_eq_true rfl, ?_⟩
  simp (config := { maxSteps := 1000000 }) only [go_sem, ↓ifP_true, ↓ifP_false, ↓ifP_not, Nat.reduceLT, Nat.reduceAdd, Nat.reduceBEq, Nat.reduceSub, Nat.reduceLeDiff, Nat.reduceEqDiff, Nat.reduceMul, Int.reduceToNat, Int.reduceEq, Int.reduceLT, Int.reduceLE, Int.reduceAdd, Int.reduceSub, Int.reduceMul, reduceCtorEq, cond_true, cond_false, forall_eq', forall_eq, forall_const, implies_true, if_true, if_false, exists_eq_left', exists_eq', exists_eq, ne_eq, Try.f92, tb92_52, tb92_51, tb92_94, tb92_82, tb92_106, tb92_63, spRRings_q, spRRings_A, spRRings_pre, spRRings_post, spOne_q, spOne_A, spOne_pre, spOne_post, spPick_q, spPick_A, spPick_pre, spPick_post, spSome_q, spSome_A, spSome_pre, spSome_post, spRings_q, spRings_A, spRings_pre, spRings_post, spRPath_q, spRPath_A, spRPath_pre, spRPath_post, spVRings_q, spVRings_A, spVRings_pre, spVRings_post]
  repeat' (first | apply And.intro | (intro hh; try simp only [List.mem_cons, List.not_mem_nil, or_false] at hh) | omega | assumption | with_reducible rfl)
  any_goals
    refine loopS (α := (List (List Pt)) × Int) true [1, 3, 4, 5, 6, 7, 8, 9, 10, 11, 12, 13, 14, 15, 16, 17, 18, 19, 20, 21, 22, 23, 24, 25, 26, 27, 28, 29, 30, 31, 32, 33, 34, 35, 36, 37, 38, 39, 40, 41] (fun σ => [gId (σ.get 4)]) (fun σ x => [(4, .c (.own (gId (σ.get 4)) (x.1).length false)), (5, I x.2)]) (fun σ x => [(gId (σ.get 4), some ⟨(x.1).map lptC, 1, 36, true, false⟩)]) (fun (o, n) => (15 * (3 - n)).toNat) (fun σ => (gL lptCd σ (σ.get 4), gI (σ.get 5))) (fun σ τ => [(gId (σ.get 4), gId (τ.get 4))]) (fun (o, n) => (0 ≤ n ∧ n ≤ 3) ∧ ((o.length : Int) ≤ 3 - n ∧ (total o : Int) ≤ 7 * (3 - n)) ∧ okLL o) (fun (o, n) => n.toNat) ⟨by (simp (config := { maxSteps := 1000000 }) only [go_sem, ↓ifP_true, ↓ifP_false, ↓ifP_not, Nat.reduceLT, Nat.reduceAdd, Nat.reduceBEq, Nat.reduceSub, Nat.reduceLeDiff, Nat.reduceEqDiff, Nat.reduceMul, Int.reduceToNat, Int.reduceEq, Int.reduceLT, Int.reduceLE, Int.reduceAdd, Int.reduceSub, Int.reduceMul, reduceCtorEq, cond_true, cond_false, forall_eq', forall_eq, forall_const, implies_true, if_true, if_false, exists_eq_left', exists_eq', exists_eq, ne_eq, Try.f92, tb92_52, tb92_51, tb92_94, tb92_82, tb92_106, tb92_63, spRRings_q, spRRings_A, spRRings_pre, spRRings_post, spOne_q, spOne_A, spOne_pre, spOne_post, spPick_q, spPick_A, spPick_pre, spPick_post, spSome_q, spSome_A, spSome_pre, spSome_post, spRings_q, spRings_A, spRings_pre, spRings_post, spRPath_q, spRPath_A, spRPath_pre, spRPath_post, spVRings_q, spVRings_A, spVRings_pre, spVRings_post]; (repeat' (first | apply And.intro | (intro hh; try simp only [List.mem_cons, List.not_mem_nil, or_false] at hh) | omega | assumption | with_reducible rfl)); all_goals (first | exact okLL.nil | (simp only [total, List.map_nil, List.sum_nil]; omega))), ?_⟩
    rintro ⟨o, n⟩ hinv
    try dsimp only at hinv
    simp (config := { maxSteps := 1000000 }) only [go_sem, ↓ifP_true, ↓ifP_false, ↓ifP_not, Nat.reduceLT, Nat.reduceAdd, Nat.reduceBEq, Nat.reduceSub, Nat.reduceLeDiff, Nat.reduceEqDiff, Nat.reduceMul, Int.reduceToNat, Int.reduceEq, Int.reduceLT, Int.reduceLE, Int.reduceAdd, Int.reduceSub, Int.reduceMul, reduceCtorEq, cond_true, cond_false, forall_eq', forall_eq, forall_const, implies_true, if_true, if_false, exists_eq_left', exists_eq', exists_eq, ne_eq, Try.f92, tb92_52, tb92_51, tb92_94, tb92_82, tb92_106, tb92_63, spRRings_q, spRRings_A, spRRings_pre, spRRings_post, spOne_q, spOne_A, spOne_pre, spOne_post, spPick_q, spPick_A, spPick_pre, spPick_post, spSome_q, spSome_A, spSome_pre, spSome_post, spRings_q, spRings_A, spRings_pre, spRings_post, spRPath_q, spRPath_A, spRPath_pre, spRPath_post, spVRings_q, spVRings_A, spVRings_pre, spVRings_post]
    repeat' (first | apply And.intro | (intro hh; try simp only [List.mem_cons, List.not_mem_nil, or_false] at hh) | omega | assumption | with_reducible rfl)
  
  any_goals
    refine loopS (α := (List Pt) × Int) true [1, 3, 6, 7, 8, 9, 10, 11, 12, 13, 14, 15, 16, 17, 18, 19, 20, 21, 22, 23, 24, 25, 26, 27, 28, 29, 30, 31, 32, 33, 34, 35, 36, 37] (fun σ => [gId (σ.get 6)]) (fun σ x => [(6, .c (.own (gId (σ.get 6)) (x.1).length false)), (7, I x.2)]) (fun σ x => [(gId (σ.get 6), some ⟨(x.1).map ptC, 2, 38, true, false⟩)]) (fun (q, k) => (2 * (7 - k)).toNat) (fun σ => (gL ptCd σ (σ.get 6), gI (σ.get 7))) (fun σ τ => [(gId (σ.get 6), gId (τ.get 6))]) (fun (q, k) => (0 ≤ k ∧ k ≤ 7) ∧ (q.length : Int) ≤ 7 - k ∧ okL q) (fun (q, k) => k.toNat) ⟨by (simp (config := { maxSteps := 1000000 }) only [go_sem, ↓ifP_true, ↓ifP_false, ↓ifP_not, Nat.reduceLT, Nat.reduceAdd, Nat.reduceBEq, Nat.reduceSub, Nat.reduceLeDiff, Nat.reduceEqDiff, Nat.reduceMul, Int.reduceToNat, Int.reduceEq, Int.reduceLT, Int.reduceLE, Int.reduceAdd, Int.reduceSub, Int.reduceMul, reduceCtorEq, cond_true, cond_false, forall_eq', forall_eq, forall_const, implies_true, if_true, if_false, exists_eq_left', exists_eq', exists_eq, ne_eq, Try.f92, tb92_52, tb92_51, tb92_94, tb92_82, tb92_106, tb92_63, spRRings_q, spRRings_A, spRRings_pre, spRRings_post, spOne_q, spOne_A, spOne_pre, spOne_post, spPick_q, spPick_A, spPick_pre, spPick_post, spSome_q, spSome_A, spSome_pre, spSome_post, spRings_q, spRings_A, spRings_pre, spRings_post, spRPath_q, spRPath_A, spRPath_pre, spRPath_post, spVRings_q, spVRings_A, spVRings_pre, spVRings_post]; (repeat' (first | apply And.intro | (intro hh; try simp only [List.mem_cons, List.not_mem_nil, or_false] at hh) | omega | assumption | with_reducible rfl)); all_goals (first | exact okL_nil)), ?_⟩
    rintro ⟨q, k⟩ hinv
    try dsimp only at hinv
    simp (config := { maxSteps := 1000000 }) only [go_sem, ↓ifP_true, ↓ifP_false, ↓ifP_not, Nat.reduceLT, Nat.reduceAdd, Nat.reduceBEq, Nat.reduceSub, Nat.reduceLeDiff, Nat.reduceEqDiff, Nat.reduceMul, Int.reduceToNat, Int.reduceEq, Int.reduceLT, Int.reduceLE, Int.reduceAdd, Int.reduceSub, Int.reduceMul, reduceCtorEq, cond_true, cond_false, forall_eq', forall_eq, forall_const, implies_true, if_true, if_false, exists_eq_left', exists_eq', exists_eq, ne_eq, Try.f92, tb92_52, tb92_51, tb92_94, tb92_82, tb92_106, tb92_63, spRRings_q, spRRings_A, spRRings_pre, spRRings_post, spOne_q, spOne_A, spOne_pre, spOne_post, spPick_q, spPick_A, spPick_pre, spPick_post, spSome_q, spSome_A, spSome_pre, spSome_post, spRings_q, spRings_A, spRings_pre, spRings_post, spRPath_q, spRPath_A, spRPath_pre, spRPath_post, spVRings_q, spVRings_A, spVRings_pre, spVRings_post]
    repeat' (first | apply And.intro | (intro hh; try simp only [List.mem_cons, List.not_mem_nil, or_false] at hh) | omega | assumption | with_reducible rfl)
  all_goals (first | ((have h1 := rings_ok ‹vPath _ = true›; omega); done) | ((have h1 := rings_total ‹vPath _ = true›; omega); done) | ((have h1 := rings_ok ‹vPath _ = true›; have h2 := vRings_len ‹_›; exact ⟨_, rfl, rfl, h2.1, h2.2, h1.1⟩); done) | (exact okL_snoc hinv.2.2 (okP_rng ‹_› ‹_› ‹_› ‹_›); done) | ((rw [total_snoc]; rename_i h1 _ _; have h1 := hinv.2.1; omega); done) | ((rw [total_snoc]; omega); done) | (exact okLL.snoc (by assumption) hinv.2.2; done) | ((rename_i h1 _ _ _; exact h1.2.2.snoc hinv.2.2); done) | ((rename_i h1 _ _; exact h1.2.2.snoc hinv.2.2); done) | ((rename_i h1 _; exact h1.2.2.snoc hinv.2.2); done) | (exact ⟨_, rfl, rfl, by omega, by omega, hinv.2.2⟩; done))
theorem sat_spec_randomRings : Sat Try.prog rt0 92 (wkIn spRRings) := sat_in (sat_out sat_spec_randomRings_0)
end Go.Proofs.Ytjjmjidchehffaa
end
section
set_option maxRecDepth 100000
set_option linter.unusedSimpArgs false
set_option linter.unusedVariables false
namespace Go.Proofs.Ytjjmjidchehffaa
open Go Go.VE
theorem okLL.one {L : List (List Pt)} {p : Pt} (h : okLL L) (h1 : -16 ≤ p.x) (h2 : p.x ≤ 207) (h3 : -16 ≤ p.y) (h4 : p.y ≤ 207) : okLL (L ++ [[p]]) := h.snoc (okL_cons (okP_rng h1 h2 h3 h4) okL_nil)
theorem okLL.any {L : List (List Pt)} {p : Pt} (h : okLL L) (h1 : -1001 ≤ p.x) (h2 : p.x ≤ 1001) (h3 : -1001 ≤ p.y) (h4 : p.y ≤ 1001) : okLL (L ++ [[p]]) := h.snoc (okL_cons (okP_any h1 h2 h3 h4) okL_nil)
def spARings_A : Unit → List AV
  | () => [.c .rdr]
def spARings_pre : Unit → Prop
  | () => True
def spARings_post : Unit → AV → List Box → Prop
  | (), r, bs => ∃ L, r = .c (.own 0 L.length false) ∧ bs = [⟨L.map lptC, 1, 36, true, false⟩] ∧ L.length ≤ 9 ∧ total L ≤ 210 ∧ okLL L
def spARings : VE.Spec := famSpec spARings_A d_r spARings_pre spARings_post 180 false
theorem spARings_q : spARings.flat = false ∧ spARings.mt = [] ∧ spARings.shut = false ∧ spARings.cost = 180 ∧ (∀ a i, spARings.pre a i = (i = [] ∧ famPre d_r spARings_A spARings_pre a)) ∧ ∀ a i r b, spARings.post a i r b = (famPost d_r spARings_post a r b) := ⟨rfl, rfl, rfl, rfl, fun _ _ => rfl, fun _ _ _ _ => rfl⟩
def tb56 : Nat → Option VE.Spec := tabOf [(51, wkIn spPick), (94, wkIn spSome), (93, wkIn spAnyP), (92, wkIn spRRings)]
theorem tb56_51 : tb56 51 = some (wkIn spPick) := rfl
theorem tb56_94 : tb56 94 = some (wkIn spSome) := rfl
theorem tb56_93 : tb56 93 = some (wkIn spAnyP) := rfl
theorem tb56_92 : tb56 92 = some (wkIn spRRings) := rfl
theorem tb56_ok : TabOK Try.prog rt0 tb56 := (tabOf_cons (by kernel_rfl) sat_spec_reader_pick (tabOf_cons (by kernel_rfl) sat_spec_somePoint (tabOf_cons (by kernel_rfl) sat_spec_anyPoint (tabOf_cons (by kernel_rfl) sat_spec_randomRings tabOf_nil))))
set_option maxHeartbeats 4000000 in
theorem sat_spec_anyRings_0 : Sat Try.prog rt0 56 (wkOut spARings) := by
  refine fn_sat hm ttok (tab := tb56) tb56_ok Try.func56 (c := Try.f56.body.getD .skip) (by kernel_rfl) (ts := [.tmp 2]) (by kernel_rfl) Try.ntmps56 (sq := fun _ => true) (by kernel_rfl) ?_
  intro args ins pk hpre0 hpk
  obtain ⟨rfl, hpre0⟩ := hpre0
  obtain ⟨⟨⟩, rfl, hpre, hdec⟩ := famPre_ex hpre0
  clear hpre0 hdec
  try simp only [spARings_pre] at hpre
  replace hpk : pk + 180 ≤ pickLimit := hpk
  refine ⟨Nat.le_of_ble_eq_true rfl, ?_⟩
  simp (config := { maxSteps := 1000000 }) only [go_sem, ↓ifP_true, ↓ifP_false, ↓ifP_not, Nat.reduceLT, Nat.reduceAdd, Nat.reduceBEq, Nat.reduceSub, Nat.reduceLeDiff, Nat.reduceEqDiff, Nat.reduceMul, Int.reduceToNat, Int.reduceEq, Int.reduceLT, Int.reduceLE, Int.reduceAdd, Int.reduceSub, Int.reduceMul, reduceCtorEq, cond_true, cond_false, forall_eq', forall_eq, forall_const, implies_true, if_true, if_false, exists_eq_left', exists_eq', exists_eq, ne_eq, Try.f56, tb56_51, tb56_94, tb56_93, tb56_92, spARings_q, spARings_A, spARings_pre, spARings_post, spPick_q, spPick_A, spPick_pre, spPick_post, spSome_q, spSome_A, spSome_pre, spSome_post, spAnyP_q, spAnyP_A, spAnyP_pre, spAnyP_post, spRRings_q, spRRings_A, spRRings_pre, spRRings_post]
  repeat' (first | apply And.intro | (intro hh; try simp only [List.mem_cons, List.not_mem_nil, or_false] at hh) | omega | assumption | with_reducible rfl)
  any_goals
    refine loopS (α := (List (List Pt))) true [1, 3, 4, 5, 6, 7, 8, 9, 10, 11, 12, 13, 14, 15, 16, 17, 18, 19, 20, 21, 22, 23, 24, 25, 26, 27, 28, 29, 30, 31, 32] (fun σ => [gId (σ.get 3)]) (fun σ x => [(3, .c (.own (gId (σ.get 3)) (x).length false))]) (fun σ x => [(gId (σ.get 3), some ⟨(x).map lptC, 1, 36, true, false⟩)]) (fun o => 2 * o.length) (fun σ => gL lptCd σ (σ.get 3)) (fun σ τ => [(gId (σ.get 3), gId (τ.get 3))]) (fun o => o.length ≤ 9 ∧ total o ≤ 200 + o.length ∧ okLL o) (fun o => 9 - o.length) ⟨by (simp (config := { maxSteps := 1000000 }) only [go_sem, ↓ifP_true, ↓ifP_false, ↓ifP_not, Nat.reduceLT, Nat.reduceAdd, Nat.reduceBEq, Nat.reduceSub, Nat.reduceLeDiff, Nat.reduceEqDiff, Nat.reduceMul, Int.reduceToNat, Int.reduceEq, Int.reduceLT, Int.reduceLE, Int.reduceAdd, Int.reduceSub, Int.reduceMul, reduceCtorEq, cond_true, cond_false, forall_eq', forall_eq, forall_const, implies_true, if_true, if_false, exists_eq_left', exists_eq', exists_eq, ne_eq, Try.f56, tb56_51, tb56_94, tb56_93, tb56_92, spARings_q, spARings_A, spARings_pre, spARings_post, spPick_q, spPick_A, spPick_pre, spPick_post, spSome_q, spSome_A, spSome_pre, spSome_post, spAnyP_q, spAnyP_A, spAnyP_pre, spAnyP_post, spRRings_q, spRRings_A, spRRings_pre, spRRings_post]; (repeat' (first | apply And.intro | (intro hh; try simp only [List.mem_cons, List.not_mem_nil, or_false] at hh) | omega | assumption | with_reducible rfl)); all_goals (first | assumption)), ?_⟩
    rintro o hinv
    try dsimp only at hinv
    simp (config := { maxSteps := 1000000 }) only [go_sem, ↓ifP_true, ↓ifP_false, ↓ifP_not, Nat.reduceLT, Nat.reduceAdd, Nat.reduceBEq, Nat.reduceSub, Nat.reduceLeDiff, Nat.reduceEqDiff, Nat.reduceMul, Int.reduceToNat, Int.reduceEq, Int.reduceLT, Int.reduceLE, Int.reduceAdd, Int.reduceSub, Int.reduceMul, reduceCtorEq, cond_true, cond_false, forall_eq', forall_eq, forall_const, implies_true, if_true, if_false, exists_eq_left', exists_eq', exists_eq, ne_eq, Try.f56, tb56_51, tb56_94, tb56_93, tb56_92, spARings_q, spARings_A, spARings_pre, spARings_post, spPick_q, spPick_A, spPick_pre, spPick_post, spSome_q, spSome_A, spSome_pre, spSome_post, spAnyP_q, spAnyP_A, spAnyP_pre, spAnyP_post, spRRings_q, spRRings_A, spRRings_pre, spRRings_post]
    repeat' (first | apply And.intro | (intro hh; try simp only [List.mem_cons, List.not_mem_nil, or_false] at hh) | omega | assumption | with_reducible rfl)
  
  all_goals (first | ((rw [total_snoc]; simp only [List.length_append, List.length_singleton]; omega); done) | ((rw [List.length_append, List.length_singleton]; omega); done) | (exact hinv.2.2.one ‹_› ‹_› ‹_› ‹_›; done) | (exact ⟨_, rfl, rfl, by omega, by omega, hinv.2.2⟩; done) | (exact ⟨_, rfl, rfl, by omega, by omega, by assumption⟩; done) | (exact ⟨‹List (List Pt)› ++ [[]], by rw [List.length_append]; rfl, lpt_map _ [], by rw [List.length_append, List.length_singleton]; omega, by rw [total_snoc]; simp only [List.length_nil]; omega, okLL.snoc ‹_› okL_nil⟩; done) | (exact ⟨‹List (List Pt)› ++ [[‹Pt›]], by rw [List.length_append]; rfl, lpt_map _ [‹Pt›], by rw [List.length_append, List.length_singleton]; omega, by rw [total_snoc]; simp only [List.length_singleton]; omega, okLL.any ‹_› ‹_› ‹_› ‹_› ‹_›⟩; done))
theorem sat_spec_anyRings : Sat Try.prog rt0 56 (wkIn spARings) := sat_in (sat_out sat_spec_anyRings_0)
end Go.Proofs.Ytjjmjidchehffaa
end
section
set_option maxRecDepth 100000
set_option linter.unusedSimpArgs false
set_option linter.unusedVariables false
namespace Go.Proofs.Ytjjmjidchehffaa
open Go Go.VE
def spCorners_A : (List (List Pt)) → List AV
  | L => [.c (.sl false (L.map lptC))]
def spCorners_pre : (List (List Pt)) → Prop
  | L => L.length ≤ 1000000000 ∧ total L ≤ 1000000000
def spCorners_post : (List (List Pt)) → AV → List Box → Prop
  | L, r, bs => r = .c (.own 0 (L.flatten).length false) ∧ bs = [⟨(L.flatten).map ptC, 2, 38, true, false⟩]
def spCorners : VE.Spec := famSpec spCorners_A d_llpt spCorners_pre spCorners_post 0 true
theorem spCorners_q : spCorners.flat = true ∧ spCorners.mt = [] ∧ spCorners.shut = false ∧ spCorners.cost = 0 ∧ (∀ a i, spCorners.pre a i = (i = [] ∧ famPre d_llpt spCorners_A spCorners_pre a)) ∧ ∀ a i r b, spCorners.post a i r b = (famPost d_llpt spCorners_post a r b) := ⟨rfl, rfl, rfl, rfl, fun _ _ => rfl, fun _ _ _ _ => rfl⟩
theorem flat_snoc (L : List (List Pt)) (r : List Pt) : (L ++ [r]).flatten = L.flatten ++ r := by simp
theorem flat_len (L : List (List Pt)) : L.flatten.length = total L := by simp [total, List.length_flatten]
theorem flat_ok {L : List (List Pt)} {k : Int} {p : Pt} (h : okLL L) (hp : L.flatten[k.toNat]? = some p) : okP p := by
  obtain ⟨r, hr, hm⟩ := List.mem_flatten.1 (List.mem_of_getElem? hp)
  exact (h.all r hr).all p hm
def tb98 : Nat → Option VE.Spec := tabOf []
theorem tb98_ok : TabOK Try.prog rt0 tb98 := tabOf_nil
set_option maxHeartbeats 4000000 in
theorem sat_spec_corners_0 : Sat Try.prog rt0 98 (wkOut spCorners) := by
  refine fn_sat hm ttok (tab := tb98) tb98_ok Try.func98 (c := Try.f98.body.getD .skip) (by kernel_rfl) (ts := [.tmp 2]) (by kernel_rfl) Try.ntmps98 (sq := fun _ => true) (by kernel_rfl) ?_
  intro args ins pk hpre0 hpk
  obtain ⟨rfl, hpre0⟩ := hpre0
  obtain ⟨L, rfl, hpre, hdec⟩ := famPre_ex hpre0
  clear hpre0 hdec
  try simp only [spCorners_pre] at hpre
  replace hpk : pk + 0 ≤ pickLimit := hpk
  refine ⟨Nat.le_of_ble_eq_true rfl, ?_⟩
  simp (config := { maxSteps := 1000000 }) only [go_sem, ↓ifP_true, ↓ifP_false, ↓ifP_not, Nat.reduceLT, Nat.reduceAdd, Nat.reduceBEq, Nat.reduceSub, Nat.reduceLeDiff, Nat.reduceEqDiff, Nat.reduceMul, Int.reduceToNat, Int.reduceEq, Int.reduceLT, Int.reduceLE, Int.reduceAdd, Int.reduceSub, Int.reduceMul, reduceCtorEq, cond_true, cond_false, forall_eq', forall_eq, forall_const, implies_true, if_true, if_false, exists_eq_left', exists_eq', exists_eq, ne_eq, Try.f98, spCorners_q, spCorners_A, spCorners_pre, spCorners_post]
  repeat' (first | apply And.intro | (intro _) | omega | assumption | with_reducible rfl)
  refine loopS (α := (List Pt) × Int) false [1, 3, 4, 5, 6, 7, 8, 9, 10, 11, 12, 13, 14, 15, 16, 17] (fun σ => [gId (σ.get 3)]) (fun σ x => [(3, .c (.own (gId (σ.get 3)) (x.1).length false)), (4, I x.2)]) (fun σ x => [(gId (σ.get 3), some ⟨(x.1).map ptC, 2, 38, true, false⟩)]) (fun (o, i) => 0) (fun σ => (gL ptCd σ (σ.get 3), gI (σ.get 4))) (fun σ τ => [(gId (σ.get 3), gId (τ.get 3))]) (fun (o, i) => 0 ≤ i ∧ i ≤ L.length ∧ o = (L.take i.toNat).flatten) (fun (o, i) => (L.length - i).toNat) ⟨by (simp (config := { maxSteps := 1000000 }) only [go_sem, ↓ifP_true, ↓ifP_false, ↓ifP_not, Nat.reduceLT, Nat.reduceAdd, Nat.reduceBEq, Nat.reduceSub, Nat.reduceLeDiff, Nat.reduceEqDiff, Nat.reduceMul, Int.reduceToNat, Int.reduceEq, Int.reduceLT, Int.reduceLE, Int.reduceAdd, Int.reduceSub, Int.reduceMul, reduceCtorEq, cond_true, cond_false, forall_eq', forall_eq, forall_const, implies_true, if_true, if_false, exists_eq_left', exists_eq', exists_eq, ne_eq, Try.f98, spCorners_q, spCorners_A, spCorners_pre, spCorners_post]; (repeat' (first | apply And.intro | (intro _) | omega | assumption | with_reducible rfl)); all_goals (first | rfl)), ?_⟩
  rintro ⟨o, i⟩ hinv
  try dsimp only at hinv
  rcases elemAt L i (by omega) with ⟨hlt, r, hk⟩ | hlt
  all_goals (first | ((have hlt2 := of_eq_true hlt); (have hT := total_mem hk); all_goals simp (config := { maxSteps := 1000000 }) only [go_sem, ↓ifP_true, ↓ifP_false, ↓ifP_not, Nat.reduceLT, Nat.reduceAdd, Nat.reduceBEq, Nat.reduceSub, Nat.reduceLeDiff, Nat.reduceEqDiff, Nat.reduceMul, Int.reduceToNat, Int.reduceEq, Int.reduceLT, Int.reduceLE, Int.reduceAdd, Int.reduceSub, Int.reduceMul, reduceCtorEq, cond_true, cond_false, forall_eq', forall_eq, forall_const, implies_true, if_true, if_false, exists_eq_left', exists_eq', exists_eq, ne_eq, Try.f98, spCorners_q, spCorners_A, spCorners_pre, spCorners_post, hlt, hk]) | (have hlt2 := of_eq_false hlt; simp (config := { maxSteps := 1000000 }) only [go_sem, ↓ifP_true, ↓ifP_false, ↓ifP_not, Nat.reduceLT, Nat.reduceAdd, Nat.reduceBEq, Nat.reduceSub, Nat.reduceLeDiff, Nat.reduceEqDiff, Nat.reduceMul, Int.reduceToNat, Int.reduceEq, Int.reduceLT, Int.reduceLE, Int.reduceAdd, Int.reduceSub, Int.reduceMul, reduceCtorEq, cond_true, cond_false, forall_eq', forall_eq, forall_const, implies_true, if_true, if_false, exists_eq_left', exists_eq', exists_eq, ne_eq, Try.f98, spCorners_q, spCorners_A, spCorners_pre, spCorners_post, hlt]))
  all_goals
    repeat' (first | apply And.intro | (intro _) | omega | assumption | with_reducible rfl)
  all_goals (first | ((obtain ⟨h0, h1, rfl⟩ := hinv; rw [flat_len]; omega); done) | ((obtain ⟨h0, h1, rfl⟩ := hinv; rw [takeN hk h0, flat_snoc]); done) | ((obtain ⟨h0, h1, rfl⟩ := hinv; rw [takeA (by omega)]); done))
theorem sat_spec_corners : Sat Try.prog rt0 98 (wkIn spCorners) := sat_in (sat_out sat_spec_corners_0)
def spNear_A : (List (List Pt)) → List AV
  | L => [.c .rdr, .c (.sl false (L.map lptC))]
def spNear_pre : (List (List Pt)) → Prop
  | L => L.length ≤ 1000000000 ∧ total L ≤ 1000000000 ∧ okLL L
def spNear_post : (List (List Pt)) → AV → List Box → Prop
  | L, r, bs => ∃ p : Pt, r = .agg (ptC p) ∧ bs = [] ∧ okP p
def spNear : VE.Spec := famSpec spNear_A d_r_llpt spNear_pre spNear_post 6 false
theorem spNear_q : spNear.flat = false ∧ spNear.mt = [] ∧ spNear.shut = false ∧ spNear.cost = 6 ∧ (∀ a i, spNear.pre a i = (i = [] ∧ famPre d_r_llpt spNear_A spNear_pre a)) ∧ ∀ a i r b, spNear.post a i r b = (famPost d_r_llpt spNear_post a r b) := ⟨rfl, rfl, rfl, rfl, fun _ _ => rfl, fun _ _ _ _ => rfl⟩
def tb68 : Nat → Option VE.Spec := tabOf [(51, wkIn spPick), (98, wkIn spCorners), (93, wkIn spAnyP)]
theorem tb68_51 : tb68 51 = some (wkIn spPick) := rfl
theorem tb68_98 : tb68 98 = some (wkIn spCorners) := rfl
theorem tb68_93 : tb68 93 = some (wkIn spAnyP) := rfl
theorem tb68_ok : TabOK Try.prog rt0 tb68 := (tabOf_cons (by kernel_rfl) sat_spec_reader_pick (tabOf_cons (by kernel_rfl) sat_spec_corners (tabOf_cons (by kernel_rfl) sat_spec_anyPoint tabOf_nil)))
set_option maxHeartbeats 4000000 in
theorem sat_spec_nearPoint_0 : Sat Try.prog rt0 68 (wkOut spNear) := by
  refine fn_sat hm ttok (tab := tb68) tb68_ok Try.func68 (c := Try.f68.body.getD .skip) (by kernel_rfl) (ts := [.cell 4 38]) (by kernel_rfl) Try.ntmps68 (sq := fun _ => true) (by kernel_rfl) ?_
  intro args ins pk hpre0 hpk
  obtain ⟨rfl, hpre0⟩ := hpre0
  obtain ⟨L, rfl, hpre, hdec⟩ := famPre_ex hpre0
  clear hpre0 hdec
  try simp only [spNear_pre] at hpre
  replace hpk : pk + 6 ≤ pickLimit := hpk
  refine ⟨Nat.le_of_ble_eq_true rfl, ?_⟩
  simp (config := { maxSteps := 1000000 }) only [go_sem, ↓ifP_true, ↓ifP_false, ↓ifP_not, Nat.reduceLT, Nat.reduceAdd, Nat.reduceBEq, Nat.reduceSub, Nat.reduceLeDiff, Nat.reduceEqDiff, Nat.reduceMul, Int.reduceToNat, Int.reduceEq, Int.reduceLT, Int.reduceLE, Int.reduceAdd, Int.reduceSub, Int.reduceMul, reduceCtorEq, cond_true, cond_false, forall_eq', forall_eq, forall_const, implies_true, if_true, if_false, exists_eq_left', exists_eq', exists_eq, ne_eq, Try.f68, tb68_51, tb68_98, tb68_93, spNear_q, spNear_A, spNear_pre, spNear_post, spPick_q, spPick_A, spPick_pre, spPick_post, spCorners_q, spCorners_A, spCorners_pre, spCorners_post, spAnyP_q, spAnyP_A, spAnyP_pre, spAnyP_post, Picks]
  repeat' (first | apply And.intro | (intro _) | omega | assumption | with_reducible rfl)
  all_goals (first | ((rw [flat_len]; omega); done) | (exact flat_ok hpre.2.2 ‹_›; done) | (exact okP_any ‹_› ‹_› ‹_› ‹_›; done) | (grind; done))
theorem sat_spec_nearPoint : Sat Try.prog rt0 68 (wkIn spNear) := sat_in (sat_out sat_spec_nearPoint_0)
end Go.Proofs.Ytjjmjidchehffaa
end
section
set_option maxRecDepth 100000
set_option linter.unusedSimpArgs false
set_option linter.unusedVariables false
namespace Go.Proofs.Ytjjmjidchehffaa
open Go Go.VE
def spPlace_A : Unit → List AV
  | () => [.c .rdr]
def spPlace_pre : Unit → Prop
  | () => True
def spPlace_post : Unit → AV → List Box → Prop
  | (), r, bs => ∃ m, r = I m ∧ bs = [] ∧ m ∈ ([0, 3, 5, 7, 11, 4, 12, -1, 8] : List Int)
def spPlace : VE.Spec := famSpec spPlace_A d_r spPlace_pre spPlace_post 1 false
theorem spPlace_q : spPlace.flat = false ∧ spPlace.mt = [] ∧ spPlace.shut = false ∧ spPlace.cost = 1 ∧ (∀ a i, spPlace.pre a i = (i = [] ∧ famPre d_r spPlace_A spPlace_pre a)) ∧ ∀ a i r b, spPlace.post a i r b = (famPost d_r spPlace_post a r b) := ⟨rfl, rfl, rfl, rfl, fun _ _ => rfl, fun _ _ _ _ => rfl⟩
def tb53 : Nat → Option VE.Spec := tabOf [(52, wkIn spOne)]
theorem tb53_52 : tb53 52 = some (wkIn spOne) := rfl
theorem tb53_ok : TabOK Try.prog rt0 tb53 := (tabOf_cons (by kernel_rfl) sat_spec_reader_one tabOf_nil)
set_option maxHeartbeats 4000000 in
theorem sat_spec_anyPlace_0 : Sat Try.prog rt0 53 (wkOut spPlace) := by
  refine fn_sat hm ttok (tab := tb53) tb53_ok Try.func53 (c := Try.f53.body.getD .skip) (by kernel_rfl) (ts := [.tmp 2]) (by kernel_rfl) Try.ntmps53 (sq := fun _ => true) (by kernel_rfl) ?_
  intro args ins pk hpre0 hpk
  obtain ⟨rfl, hpre0⟩ := hpre0
  obtain ⟨⟨⟩, rfl, hpre, hdec⟩ := famPre_ex hpre0
  clear hpre0 hdec
  try simp only [spPlace_pre] at hpre
  replace hpk : pk + 1 ≤ pickLimit := hpk
  refine ⟨Nat.le_of_ble_eq_true rfl, ?_⟩
  simp (config := { maxSteps := 1000000 }) only [go_sem, ↓ifP_true, ↓ifP_false, ↓ifP_not, Nat.reduceLT, Nat.reduceAdd, Nat.reduceBEq, Nat.reduceSub, Nat.reduceLeDiff, Nat.reduceEqDiff, Nat.reduceMul, Int.reduceToNat, Int.reduceEq, Int.reduceLT, Int.reduceLE, Int.reduceAdd, Int.reduceSub, Int.reduceMul, reduceCtorEq, cond_true, cond_false, forall_eq', forall_eq, forall_const, implies_true, if_true, if_false, exists_eq_left', exists_eq', exists_eq, ne_eq, Try.f53, tb53_52, spPlace_q, spPlace_A, spPlace_pre, spPlace_post, spOne_q, spOne_A, spOne_pre, spOne_post]
  repeat' (first | apply And.intro | (intro _) | omega | assumption | with_reducible rfl)
  all_goals (first | (exact ⟨_, rfl, ‹_›⟩; done) | (simp_all; done) | (grind; done))
theorem sat_spec_anyPlace : Sat Try.prog rt0 53 (wkIn spPlace) := sat_in (sat_out sat_spec_anyPlace_0)
def spSide9_A : Unit → List AV
  | () => [.c .rdr]
def spSide9_pre : Unit → Prop
  | () => True
def spSide9_post : Unit → AV → List Box → Prop
  | (), r, bs => ∃ m, r = I m ∧ bs = [] ∧ m ∈ ([4, 5, 8, 3, 12, 1, 9, 0, 13] : List Int)
def spSide9 : VE.Spec := famSpec spSide9_A d_r spSide9_pre spSide9_post 1 false
theorem spSide9_q : spSide9.flat = false ∧ spSide9.mt = [] ∧ spSide9.shut = false ∧ spSide9.cost = 1 ∧ (∀ a i, spSide9.pre a i = (i = [] ∧ famPre d_r spSide9_A spSide9_pre a)) ∧ ∀ a i r b, spSide9.post a i r b = (famPost d_r spSide9_post a r b) := ⟨rfl, rfl, rfl, rfl, fun _ _ => rfl, fun _ _ _ _ => rfl⟩
def tb57 : Nat → Option VE.Spec := tabOf [(52, wkIn spOne)]
theorem tb57_52 : tb57 52 = some (wkIn spOne) := rfl
theorem tb57_ok : TabOK Try.prog rt0 tb57 := (tabOf_cons (by kernel_rfl) sat_spec_reader_one tabOf_nil)
set_option maxHeartbeats 4000000 in
theorem sat_spec_anySide_0 : Sat Try.prog rt0 57 (wkOut spSide9) := by
  refine fn_sat hm ttok (tab := tb57) tb57_ok Try.func57 (c := Try.f57.body.getD .skip) (by kernel_rfl) (ts := [.tmp 2]) (by kernel_rfl) Try.ntmps57 (sq := fun _ => true) (by kernel_rfl) ?_
  intro args ins pk hpre0 hpk
  obtain ⟨rfl, hpre0⟩ := hpre0
  obtain ⟨⟨⟩, rfl, hpre, hdec⟩ := famPre_ex hpre0
  clear hpre0 hdec
  try simp only [spSide9_pre] at hpre
  replace hpk : pk + 1 ≤ pickLimit := hpk
  refine ⟨Nat.le_of_ble_eq_true rfl, ?_⟩
  simp (config := { maxSteps := 1000000 }) only [go_sem, ↓ifP_true, ↓ifP_false, ↓ifP_not, Nat.reduceLT, Nat.reduceAdd, Nat.reduceBEq, Nat.reduceSub, Nat.reduceLeDiff, Nat.reduceEqDiff, Nat.reduceMul, Int.reduceToNat, Int.reduceEq, Int.reduceLT, Int.reduceLE, Int.reduceAdd, Int.reduceSub, Int.reduceMul, reduceCtorEq, cond_true, cond_false, forall_eq', forall_eq, forall_const, implies_true, if_true, if_false, exists_eq_left', exists_eq', exists_eq, ne_eq, Try.f57, tb57_52, spSide9_q, spSide9_A, spSide9_pre, spSide9_post, spOne_q, spOne_A, spOne_pre, spOne_post]
  repeat' (first | apply And.intro | (intro _) | omega | assumption | with_reducible rfl)
  all_goals (first | (exact ⟨_, rfl, ‹_›⟩; done) | (simp_all; done) | (grind; done))
theorem sat_spec_anySide : Sat Try.prog rt0 57 (wkIn spSide9) := sat_in (sat_out sat_spec_anySide_0)
def spTile_A : Unit → List AV
  | () => [.c .rdr]
def spTile_pre : Unit → Prop
  | () => True
def spTile_post : Unit → AV → List Box → Prop
  | (), r, bs => ∃ m, r = I m ∧ bs = [] ∧ m ∈ ([0, 1, 2, 3, 0, 1, 5, 8, 9, -1] : List Int)
def spTile : VE.Spec := famSpec spTile_A d_r spTile_pre spTile_post 1 false
theorem spTile_q : spTile.flat = false ∧ spTile.mt = [] ∧ spTile.shut = false ∧ spTile.cost = 1 ∧ (∀ a i, spTile.pre a i = (i = [] ∧ famPre d_r spTile_A spTile_pre a)) ∧ ∀ a i r b, spTile.post a i r b = (famPost d_r spTile_post a r b) := ⟨rfl, rfl, rfl, rfl, fun _ _ => rfl, fun _ _ _ _ => rfl⟩
def tb58 : Nat → Option VE.Spec := tabOf [(52, wkIn spOne)]
theorem tb58_52 : tb58 52 = some (wkIn spOne) := rfl
theorem tb58_ok : TabOK Try.prog rt0 tb58 := (tabOf_cons (by kernel_rfl) sat_spec_reader_one tabOf_nil)
set_option maxHeartbeats 4000000 in
theorem sat_spec_someTile_0 : Sat Try.prog rt0 58 (wkOut spTile) := by
  refine fn_sat hm ttok (tab := tb58) tb58_ok Try.func58 (c := Try.f58.body.getD .skip) (by kernel_rfl) (ts := [.tmp 2]) (by kernel_rfl) Try.ntmps58 (sq := fun _ => true) (by kernel_rfl) ?_
  intro args ins pk hpre0 hpk
  obtain ⟨rfl, hpre0⟩ := hpre0
  obtain ⟨⟨⟩, rfl, hpre, hdec⟩ := famPre_ex hpre0
  clear hpre0 hdec
  try simp only [spTile_pre] at hpre
  replace hpk : pk + 1 ≤ pickLimit := hpk
  refine ⟨Nat.le_of_ble_eq_true rfl, ?_⟩
  simp (config := { maxSteps := 1000000 }) only [go_sem, ↓ifP_true, ↓ifP_false, ↓ifP_not, Nat.reduceLT, Nat.reduceAdd, Nat.reduceBEq, Nat.reduceSub, Nat.reduceLeDiff, Nat.reduceEqDiff, Nat.reduceMul, Int.reduceToNat, Int.reduceEq, Int.reduceLT, Int.reduceLE, Int.reduceAdd, Int.reduceSub, Int.reduceMul, reduceCtorEq, cond_true, cond_false, forall_eq', forall_eq, forall_const, implies_true, if_true, if_false, exists_eq_left', exists_eq', exists_eq, ne_eq, Try.f58, tb58_52, spTile_q, spTile_A, spTile_pre, spTile_post, spOne_q, spOne_A, spOne_pre, spOne_post]
  repeat' (first | apply And.intro | (intro _) | omega | assumption | with_reducible rfl)
  all_goals (first | (exact ⟨_, rfl, ‹_›⟩; done) | (simp_all; done) | (grind; done))
theorem sat_spec_someTile : Sat Try.prog rt0 58 (wkIn spTile) := sat_in (sat_out sat_spec_someTile_0)
def spRule_A : Unit → List AV
  | () => [.c .rdr]
def spRule_pre : Unit → Prop
  | () => True
def spRule_post : Unit → AV → List Box → Prop
  | (), r, bs => ∃ m, r = I m ∧ bs = [] ∧ m ∈ ([0, 1, 0, 1, 0, 1, 2, -1] : List Int)
def spRule : VE.Spec := famSpec spRule_A d_r spRule_pre spRule_post 1 false
theorem spRule_q : spRule.flat = false ∧ spRule.mt = [] ∧ spRule.shut = false ∧ spRule.cost = 1 ∧ (∀ a i, spRule.pre a i = (i = [] ∧ famPre d_r spRule_A spRule_pre a)) ∧ ∀ a i r b, spRule.post a i r b = (famPost d_r spRule_post a r b) := ⟨rfl, rfl, rfl, rfl, fun _ _ => rfl, fun _ _ _ _ => rfl⟩
def tb69 : Nat → Option VE.Spec := tabOf [(52, wkIn spOne)]
theorem tb69_52 : tb69 52 = some (wkIn spOne) := rfl
theorem tb69_ok : TabOK Try.prog rt0 tb69 := (tabOf_cons (by kernel_rfl) sat_spec_reader_one tabOf_nil)
set_option maxHeartbeats 4000000 in
theorem sat_spec_anyRule_0 : Sat Try.prog rt0 69 (wkOut spRule) := by
  refine fn_sat hm ttok (tab := tb69) tb69_ok Try.func69 (c := Try.f69.body.getD .skip) (by kernel_rfl) (ts := [.tmp 2]) (by kernel_rfl) Try.ntmps69 (sq := fun _ => true) (by kernel_rfl) ?_
  intro args ins pk hpre0 hpk
  obtain ⟨rfl, hpre0⟩ := hpre0
  obtain ⟨⟨⟩, rfl, hpre, hdec⟩ := famPre_ex hpre0
  clear hpre0 hdec
  try simp only [spRule_pre] at hpre
  replace hpk : pk + 1 ≤ pickLimit := hpk
  refine ⟨Nat.le_of_ble_eq_true rfl, ?_⟩
  simp (config := { maxSteps := 1000000 }) only [go_sem, ↓ifP_true, ↓ifP_false, ↓ifP_not, Nat.reduceLT, Nat.reduceAdd, Nat.reduceBEq, Nat.reduceSub, Nat.reduceLeDiff, Nat.reduceEqDiff, Nat.reduceMul, Int.reduceToNat, Int.reduceEq, Int.reduceLT, Int.reduceLE, Int.reduceAdd, Int.reduceSub, Int.reduceMul, reduceCtorEq, cond_true, cond_false, forall_eq', forall_eq, forall_const, implies_true, if_true, if_false, exists_eq_left', exists_eq', exists_eq, ne_eq, Try.f69, tb69_52, spRule_q, spRule_A, spRule_pre, spRule_post, spOne_q, spOne_A, spOne_pre, spOne_post]
  repeat' (first | apply And.intro | (intro _) | omega | assumption | with_reducible rfl)
  all_goals (first | (exact ⟨_, rfl, ‹_›⟩; done) | (simp_all; done) | (grind; done))
theorem sat_spec_anyRule : Sat Try.prog rt0 69 (wkIn spRule) := sat_in (sat_out sat_spec_anyRule_0)
def spRow_A : Unit → List AV
  | () => [.c .rdr]
def spRow_pre : Unit → Prop
  | () => True
def spRow_post : Unit → AV → List Box → Prop
  | (), r, bs => ∃ m, r = I m ∧ bs = [] ∧ m ∈ ([0, 10, 20, 30, 40, 47, 48, -1, 5] : List Int)
def spRow : VE.Spec := famSpec spRow_A d_r spRow_pre spRow_post 1 false
theorem spRow_q : spRow.flat = false ∧ spRow.mt = [] ∧ spRow.shut = false ∧ spRow.cost = 1 ∧ (∀ a i, spRow.pre a i = (i = [] ∧ famPre d_r spRow_A spRow_pre a)) ∧ ∀ a i r b, spRow.post a i r b = (famPost d_r spRow_post a r b) := ⟨rfl, rfl, rfl, rfl, fun _ _ => rfl, fun _ _ _ _ => rfl⟩
def tb89 : Nat → Option VE.Spec := tabOf [(52, wkIn spOne)]
theorem tb89_52 : tb89 52 = some (wkIn spOne) := rfl
theorem tb89_ok : TabOK Try.prog rt0 tb89 := (tabOf_cons (by kernel_rfl) sat_spec_reader_one tabOf_nil)
set_option maxHeartbeats 4000000 in
theorem sat_spec_anyRow_0 : Sat Try.prog rt0 89 (wkOut spRow) := by
  refine fn_sat hm ttok (tab := tb89) tb89_ok Try.func89 (c := Try.f89.body.getD .skip) (by kernel_rfl) (ts := [.tmp 2]) (by kernel_rfl) Try.ntmps89 (sq := fun _ => true) (by kernel_rfl) ?_
  intro args ins pk hpre0 hpk
  obtain ⟨rfl, hpre0⟩ := hpre0
  obtain ⟨⟨⟩, rfl, hpre, hdec⟩ := famPre_ex hpre0
  clear hpre0 hdec
  try simp only [spRow_pre] at hpre
  replace hpk : pk + 1 ≤ pickLimit := hpk
  refine ⟨Nat.le_of_ble_eq_true rfl, ?_⟩
  simp (config := { maxSteps := 1000000 }) only [go_sem, ↓ifP_true, ↓ifP_false, ↓ifP_not, Nat.reduceLT, Nat.reduceAdd, Nat.reduceBEq, Nat.reduceSub, Nat.reduceLeDiff, Nat.reduceEqDiff, Nat.reduceMul, Int.reduceToNat, Int.reduceEq, Int.reduceLT, Int.reduceLE, Int.reduceAdd, Int.reduceSub, Int.reduceMul, reduceCtorEq, cond_true, cond_false, forall_eq', forall_eq, forall_const, implies_true, if_true, if_false, exists_eq_left', exists_eq', exists_eq, ne_eq, Try.f89, tb89_52, spRow_q, spRow_A, spRow_pre, spRow_post, spOne_q, spOne_A, spOne_pre, spOne_post]
  repeat' (first | apply And.intro | (intro _) | omega | assumption | with_reducible rfl)
  all_goals (first | (exact ⟨_, rfl, ‹_›⟩; done) | (simp_all; done) | (grind; done))
theorem sat_spec_anyRow : Sat Try.prog rt0 89 (wkIn spRow) := sat_in (sat_out sat_spec_anyRow_0)
end Go.Proofs.Ytjjmjidchehffaa
end
