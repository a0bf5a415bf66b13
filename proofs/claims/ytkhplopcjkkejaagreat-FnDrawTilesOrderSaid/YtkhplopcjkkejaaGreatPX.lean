/- Contracts of functions of the program vectorraster, each proved for all states that fit its description. No conditions. -/
import Derived.Test.YtkhplopcjkkejaaGreatPR
import Derived.Test.YtkhplopcjkkejaaGreatPW
import Derived.Test.YtkhplopcjkkejaaGreatPA
import Derived.Test.YtkhplopcjkkejaaGreatPV
set_option linter.unusedSimpArgs false
set_option linter.unusedVariables false
section
set_option maxRecDepth 100000
set_option linter.unusedSimpArgs false
set_option linter.unusedVariables false
namespace Go.Proofs.YtkhplopcjkkejaaGreat
open Go Go.VE
def spCpI_A : (List Int) → List AV
  | l => [.c (.sl false (l.map intC))]
def spCpI_pre : (List Int) → Prop
  | l => l.length ≤ 1000000
def spCpI_post : (List Int) → AV → List Box → Prop
  | l, r, bs => r = .c (.own 0 (l).length false) ∧ bs = [⟨(l).map intC, 1, 3, true, false⟩]
def spCpI : VE.Spec := famSpec spCpI_A d_li spCpI_pre spCpI_post 0 false
theorem spCpI_q : spCpI.flat = false ∧ spCpI.mt = [] ∧ spCpI.shut = false ∧ spCpI.cost = 0 ∧ (∀ a i, spCpI.pre a i = (i = [] ∧ famPre d_li spCpI_A spCpI_pre a)) ∧ ∀ a i r b, spCpI.post a i r b = (famPost d_li spCpI_post a r b) := ⟨rfl, rfl, rfl, rfl, fun _ _ => rfl, fun _ _ _ _ => rfl⟩
def tb168 : Nat → Option VE.Spec := tabOf []
theorem tb168_ok : TabOK Tryz.prog rt0 tb168 := tabOf_nil
set_option maxHeartbeats 4000000 in
theorem sat_spec_copyInts_0 : Sat Tryz.prog rt0 168 (wkOut spCpI) := by
  refine fn_sat hm ttok (tab := tb168) tb168_ok Tryz.func168 (c := Tryz.f168.body.getD .skip) (by kernel_rfl) (ts := [.tmp 2]) (by kernel_rfl) Tryz.ntmps168 (sq := fun _ => true) (by kernel_rfl) ?_
  intro args ins pk hpre0 hpk
  obtain ⟨rfl, hpre0⟩ := hpre0
  obtain ⟨l, rfl, hpre, hdec⟩ := famPre_ex hpre0
  clear hpre0 hdec
  try simp only [spCpI_pre] at hpre
  replace hpk : pk + 0 ≤ pickLimit := hpk
  refine ⟨Nat.le_of_ble_eq_true rfl, ?_⟩
  simp (config := { maxSteps := 1000000 }) only [go_sem, ↓ifP_true, ↓ifP_false, ↓ifP_not, Nat.reduceLT, Nat.reduceAdd, Nat.reduceBEq, Nat.reduceSub, Nat.reduceLeDiff, Nat.reduceEqDiff, Nat.reduceMul, Int.reduceToNat, Int.reduceEq, Int.reduceLT, Int.reduceLE, Int.reduceAdd, Int.reduceSub, Int.reduceMul, reduceCtorEq, cond_true, cond_false, forall_eq', forall_eq, forall_const, implies_true, if_true, if_false, exists_eq_left', exists_eq', exists_eq, ne_eq, Tryz.f168, spCpI_q, spCpI_A, spCpI_pre, spCpI_post]
  repeat' (first | apply And.intro | (intro _) | omega | assumption | with_reducible rfl)
  all_goals (first | (rfl; done))
theorem sat_spec_copyInts : Sat Tryz.prog rt0 168 (wkIn spCpI) := sat_in (sat_out sat_spec_copyInts_0)
def spSpl_A : (List Int) × Int → List AV
  | (l, n) => [.c .rdr, .c (.sl false (l.map intC)), I n]
def spSpl_pre : (List Int) × Int → Prop
  | (l, n) => l.length ≤ 1000
def spSpl_post : (List Int) × Int → AV → List Box → Prop
  | (l, n), r, bs => ∃ q : List Int, r = .c (.sl false (q.map intC)) ∧ bs = [] ∧ q.length ≤ l.length + 1
def spSpl : VE.Spec := famSpecS spSpl_A d_r_li_i spSpl_pre spSpl_post 3 false
theorem spSpl_q : spSpl.flat = false ∧ spSpl.mt = [] ∧ spSpl.shut = true ∧ spSpl.cost = 3 ∧ (∀ a i, spSpl.pre a i = (i = [] ∧ famPre d_r_li_i spSpl_A spSpl_pre a)) ∧ ∀ a i r b, spSpl.post a i r b = (famPost d_r_li_i spSpl_post a r b) := ⟨rfl, rfl, rfl, rfl, fun _ _ => rfl, fun _ _ _ _ => rfl⟩
theorem sp_set {l : List Int} (n : Nat) (x : Int) (h : l.length ≤ l.length + 1) : ∃ q : List Int, wkEs ((List.map intC l).set n [C.v (Value.int IntKind.i64 x)]) = List.map intC q ∧ q.length ≤ l.length + 1 := by
  refine ⟨l.set n x, ?_, by simp⟩
  have : (List.map intC l).set n [C.v (Value.int IntKind.i64 x)] = List.map intC (l.set n x) := by rw [List.map_set]; rfl
  rw [this]; simp only [go_sem]
def tb134 : Nat → Option VE.Spec := tabOf [(168, wkIn spCpI), (90, wkIn spPick), (46, wkIn spOne)]
theorem tb134_168 : tb134 168 = some (wkIn spCpI) := rfl
theorem tb134_90 : tb134 90 = some (wkIn spPick) := rfl
theorem tb134_46 : tb134 46 = some (wkIn spOne) := rfl
theorem tb134_ok : TabOK Tryz.prog rt0 tb134 := (tabOf_cons (by kernel_rfl) sat_spec_copyInts (tabOf_cons (by kernel_rfl) sat_spec_reader_pick (tabOf_cons (by kernel_rfl) sat_spec_reader_one tabOf_nil)))
set_option maxHeartbeats 4000000 in
theorem sat_spec_reader_spoil_0 : Sat Tryz.prog rt0 134 (wkOut spSpl) := by
  refine fn_sat hm ttok (tab := tb134) tb134_ok Tryz.func134 (c := Tryz.f134.body.getD .skip) (by kernel_rfl) (ts := [.tmp 6]) (by kernel_rfl) Tryz.ntmps134 (sq := fun _ => true) (by kernel_rfl) ?_
  intro args ins pk hpre0 hpk
  obtain ⟨rfl, hpre0⟩ := hpre0
  obtain ⟨⟨l, n⟩, rfl, hpre, hdec⟩ := famPre_ex hpre0
  clear hpre0 hdec
  try simp only [spSpl_pre] at hpre
  replace hpk : pk + 3 ≤ pickLimit := hpk
  refine ⟨Nat.le_of_ble_eq_true rfl, ?_⟩
  simp (config := { maxSteps := 1000000 }) only [go_sem, ↓ifP_true, ↓ifP_false, ↓ifP_not, Nat.reduceLT, Nat.reduceAdd, Nat.reduceBEq, Nat.reduceSub, Nat.reduceLeDiff, Nat.reduceEqDiff, Nat.reduceMul, Int.reduceToNat, Int.reduceEq, Int.reduceLT, Int.reduceLE, Int.reduceAdd, Int.reduceSub, Int.reduceMul, reduceCtorEq, cond_true, cond_false, forall_eq', forall_eq, forall_const, implies_true, if_true, if_false, exists_eq_left', exists_eq', exists_eq, ne_eq, Tryz.f134, tb134_168, tb134_90, tb134_46, spSpl_q, spSpl_A, spSpl_pre, spSpl_post, spCpI_q, spCpI_A, spCpI_pre, spCpI_post, spPick_q, spPick_A, spPick_pre, spPick_post, spOne_q, spOne_A, spOne_pre, spOne_post, Picks]
  repeat' (first | apply And.intro | (intro _) | omega | assumption | with_reducible rfl)
  all_goals (first | (exact ⟨l ++ [n], by rw [List.map_append]; rfl, by simp⟩; done) | (exact ⟨_, rfl, by simp; omega⟩; done) | (exact ⟨l, rfl, by omega⟩; done) | (exact sp_set _ _ (by omega); done))
theorem sat_spec_reader_spoil : Sat Tryz.prog rt0 134 (wkIn spSpl) := sat_in (sat_out sat_spec_reader_spoil_0)
end Go.Proofs.YtkhplopcjkkejaaGreat
end
section
set_option maxRecDepth 100000
set_option linter.unusedSimpArgs false
set_option linter.unusedVariables false
namespace Go.Proofs.YtkhplopcjkkejaaGreat
open Go Go.VE
def tb133 : Nat → Option VE.Spec := tabOf [(91, wkIn spSzd), (81, wkIn spTiles)]
theorem tb133_91 : tb133 91 = some (wkIn spSzd) := rfl
theorem tb133_81 : tb133 81 = some (wkIn spTiles) := rfl
theorem tb133_ok : TabOK Tryz.prog rt0 tb133 := (tabOf_cons (by kernel_rfl) sat_spec_validSize (tabOf_cons (by kernel_rfl) sat_spec_tiles tabOf_nil))
set_option maxHeartbeats 4000000 in
theorem sat_spec_TileCount_0 : Sat Tryz.prog rt0 133 (wkOut spTc) := by
  refine fn_sat hm ttok (tab := tb133) tb133_ok Tryz.func133 (c := Tryz.f133.body.getD .skip) (by kernel_rfl) (ts := [.tmp 4]) (by kernel_rfl) Tryz.ntmps133 (sq := fun _ => true) (by kernel_rfl) ?_
  intro args ins pk hpre0 hpk
  obtain ⟨rfl, hpre0⟩ := hpre0
  obtain ⟨⟨w, h⟩, rfl, hpre, hdec⟩ := famPre_ex hpre0
  clear hpre0 hdec
  try simp only [spTc_pre] at hpre
  replace hpk : pk + 0 ≤ pickLimit := hpk
  refine ⟨Nat.le_of_ble_eq_true rfl, ?_⟩
  simp (config := { maxSteps := 1000000 }) only [go_sem, ↓ifP_true, ↓ifP_false, ↓ifP_not, Nat.reduceLT, Nat.reduceAdd, Nat.reduceBEq, Nat.reduceSub, Nat.reduceLeDiff, Nat.reduceEqDiff, Nat.reduceMul, Int.reduceToNat, Int.reduceEq, Int.reduceLT, Int.reduceLE, Int.reduceAdd, Int.reduceSub, Int.reduceMul, reduceCtorEq, cond_true, cond_false, forall_eq', forall_eq, forall_const, implies_true, if_true, if_false, exists_eq_left', exists_eq', exists_eq, ne_eq, Tryz.f133, tb133_91, tb133_81, spTc_q, spTc_A, spTc_pre, spTc_post, spSzd_q, spSzd_A, spSzd_pre, spSzd_post, spTiles_q, spTiles_A, spTiles_pre, spTiles_post]
  repeat' (first | apply And.intro | (intro _) | omega | assumption | with_reducible rfl)
  all_goals (first | ((have := acr_mul ‹szd w h = true›; omega); done) | (exact (tcnt_of ‹_›).symm; done) | ((rw [tcnt, ‹szd w h = false›]; rfl); done) | (simp_all [tcnt]; done))
theorem sat_spec_TileCount : Sat Tryz.prog rt0 133 (wkIn spTc) := sat_in (sat_out sat_spec_TileCount_0)
theorem tcnt_9 (w h : Int) : -1 ≤ tcnt w h ∧ tcnt w h ≤ 9 := by
  unfold tcnt; split
  · have := acr_mul ‹_›; omega
  · omega
def spSOrd_A : Scn → List AV
  | s => [.c .rdr, .agg (scC s)]
def spSOrd_pre : Scn → Prop
  | s => okScn s
def spSOrd_post : Scn → AV → List Box → Prop
  | s, r, bs => ∃ q : List Int, r = .c (.sl false (q.map intC)) ∧ bs = [] ∧ q.length ≤ 10
def spSOrd : VE.Spec := famSpecS spSOrd_A d_r_sc spSOrd_pre spSOrd_post 20 false
theorem spSOrd_q : spSOrd.flat = false ∧ spSOrd.mt = [] ∧ spSOrd.shut = true ∧ spSOrd.cost = 20 ∧ (∀ a i, spSOrd.pre a i = (i = [] ∧ famPre d_r_sc spSOrd_A spSOrd_pre a)) ∧ ∀ a i r b, spSOrd.post a i r b = (famPost d_r_sc spSOrd_post a r b) := ⟨rfl, rfl, rfl, rfl, fun _ _ => rfl, fun _ _ _ _ => rfl⟩
def tb85 : Nat → Option VE.Spec := tabOf [(133, wkIn spTc), (46, wkIn spOne), (90, wkIn spPick), (134, wkIn spSpl)]
theorem tb85_133 : tb85 133 = some (wkIn spTc) := rfl
theorem tb85_46 : tb85 46 = some (wkIn spOne) := rfl
theorem tb85_90 : tb85 90 = some (wkIn spPick) := rfl
theorem tb85_134 : tb85 134 = some (wkIn spSpl) := rfl
theorem tb85_ok : TabOK Tryz.prog rt0 tb85 := (tabOf_cons (by kernel_rfl) sat_spec_TileCount (tabOf_cons (by kernel_rfl) sat_spec_reader_one (tabOf_cons (by kernel_rfl) sat_spec_reader_pick (tabOf_cons (by kernel_rfl) sat_spec_reader_spoil tabOf_nil))))
set_option maxHeartbeats 4000000 in
theorem sat_spec_someOrder_0 : Sat Tryz.prog rt0 85 (wkOut spSOrd) := by
  refine fn_sat hm ttok (tab := tb85) tb85_ok Tryz.func85 (c := Tryz.f85.body.getD .skip) (by kernel_rfl) (ts := [.tmp 4]) (by kernel_rfl) Tryz.ntmps85 (sq := fun _ => true) (by kernel_rfl) ?_
  intro args ins pk hpre0 hpk
  obtain ⟨rfl, hpre0⟩ := hpre0
  obtain ⟨s, rfl, hpre, hdec⟩ := famPre_ex hpre0
  clear hpre0 hdec
  try simp only [spSOrd_pre] at hpre
  replace hpk : pk + 20 ≤ pickLimit := hpk
  refine ⟨Nat.le_of_ble_eq_true rfl, ?_⟩
  simp (config := { maxSteps := 1000000 }) only [go_sem, ↓ifP_true, ↓ifP_false, ↓ifP_not, Nat.reduceLT, Nat.reduceAdd, Nat.reduceBEq, Nat.reduceSub, Nat.reduceLeDiff, Nat.reduceEqDiff, Nat.reduceMul, Int.reduceToNat, Int.reduceEq, Int.reduceLT, Int.reduceLE, Int.reduceAdd, Int.reduceSub, Int.reduceMul, reduceCtorEq, cond_true, cond_false, forall_eq', forall_eq, forall_const, implies_true, if_true, if_false, exists_eq_left', exists_eq', exists_eq, ne_eq, Tryz.f85, tb85_133, tb85_46, tb85_90, tb85_134, spSOrd_q, spSOrd_A, spSOrd_pre, spSOrd_post, spTc_q, spTc_A, spTc_pre, spTc_post, spOne_q, spOne_A, spOne_pre, spOne_post, spPick_q, spPick_A, spPick_pre, spPick_post, spSpl_q, spSpl_A, spSpl_pre, spSpl_post, Picks]
  repeat' (first | apply And.intro | (intro _) | omega | assumption | with_reducible rfl)
  all_goals try (have hT9 := tcnt_9 s.w s.h)
  all_goals try (simp only [List.mem_cons, List.not_mem_nil, or_false] at *)
  any_goals
    refine loopS (α := (List Int) × Int) false [1, 2, 3, 5, 7, 8, 9, 10, 11, 12, 13, 14, 15, 16, 17, 18, 19, 20, 21, 22, 23, 24, 25, 26, 27] (fun σ => [gId (σ.get 5)]) (fun σ x => [(5, .c (.own (gId (σ.get 5)) (x.1).length false)), (7, I x.2)]) (fun σ x => [(gId (σ.get 5), some ⟨(x.1).map intC, 1, 3, true, false⟩)]) (fun (o, k) => o.length) (fun σ => (gL intCd σ (σ.get 5), gI (σ.get 7))) (fun σ τ => [(gId (σ.get 5), gId (τ.get 5))]) (fun (o, k) => 0 ≤ k ∧ o.length + k ≤ 9) (fun (o, k) => k.toNat) ⟨by (simp (config := { maxSteps := 1000000 }) only [go_sem, ↓ifP_true, ↓ifP_false, ↓ifP_not, Nat.reduceLT, Nat.reduceAdd, Nat.reduceBEq, Nat.reduceSub, Nat.reduceLeDiff, Nat.reduceEqDiff, Nat.reduceMul, Int.reduceToNat, Int.reduceEq, Int.reduceLT, Int.reduceLE, Int.reduceAdd, Int.reduceSub, Int.reduceMul, reduceCtorEq, cond_true, cond_false, forall_eq', forall_eq, forall_const, implies_true, if_true, if_false, exists_eq_left', exists_eq', exists_eq, ne_eq, Tryz.f85, tb85_133, tb85_46, tb85_90, tb85_134, spSOrd_q, spSOrd_A, spSOrd_pre, spSOrd_post, spTc_q, spTc_A, spTc_pre, spTc_post, spOne_q, spOne_A, spOne_pre, spOne_post, spPick_q, spPick_A, spPick_pre, spPick_post, spSpl_q, spSpl_A, spSpl_pre, spSpl_post, Picks]; (repeat' (first | apply And.intro | (intro _) | omega | assumption | with_reducible rfl)); all_goals (first | omega)), ?_⟩
    rintro ⟨o, k⟩ hinv
    try dsimp only at hinv
    simp (config := { maxSteps := 1000000 }) only [go_sem, ↓ifP_true, ↓ifP_false, ↓ifP_not, Nat.reduceLT, Nat.reduceAdd, Nat.reduceBEq, Nat.reduceSub, Nat.reduceLeDiff, Nat.reduceEqDiff, Nat.reduceMul, Int.reduceToNat, Int.reduceEq, Int.reduceLT, Int.reduceLE, Int.reduceAdd, Int.reduceSub, Int.reduceMul, reduceCtorEq, cond_true, cond_false, forall_eq', forall_eq, forall_const, implies_true, if_true, if_false, exists_eq_left', exists_eq', exists_eq, ne_eq, Tryz.f85, tb85_133, tb85_46, tb85_90, tb85_134, spSOrd_q, spSOrd_A, spSOrd_pre, spSOrd_post, spTc_q, spTc_A, spTc_pre, spTc_post, spOne_q, spOne_A, spOne_pre, spOne_post, spPick_q, spPick_A, spPick_pre, spPick_post, spSpl_q, spSpl_A, spSpl_pre, spSpl_post, Picks]
    repeat' (first | apply And.intro | (intro _) | omega | assumption | with_reducible rfl)
  
  all_goals (first | ((have hT9 := tcnt_9 s.w s.h; omega); done) | (exact ⟨_, rfl, by omega⟩; done) | (exact ⟨_, rfl, rfl, by omega⟩; done))
theorem sat_spec_someOrder : Sat Tryz.prog rt0 85 (wkIn spSOrd) := sat_in (sat_out sat_spec_someOrder_0)
end Go.Proofs.YtkhplopcjkkejaaGreat
end
section
set_option maxRecDepth 100000
set_option linter.unusedSimpArgs false
set_option linter.unusedVariables false
namespace Go.Proofs.YtkhplopcjkkejaaGreat
open Go Go.VE
def spDDTs_A : (List UInt8) → List AV
  | code => [.c (.sl false (byC code))]
def spDDTs_pre : (List UInt8) → Prop
  | code => code.length ≤ 1048576
def spDDTs_post : (List UInt8) → AV → List Box → Prop
  | code, r, bs => ∃ (s : Scn) (ts : List Int), r = .tup [.agg (scC s), .c (.sl false (ts.map intC))] ∧ bs = [] ∧ okScn s ∧ ts.length ≤ 10
def spDDTs : VE.Spec := famSpecS spDDTs_A d_ly spDDTs_pre spDDTs_post 1400 false
theorem spDDTs_q : spDDTs.flat = false ∧ spDDTs.mt = [] ∧ spDDTs.shut = true ∧ spDDTs.cost = 1400 ∧ (∀ a i, spDDTs.pre a i = (i = [] ∧ famPre d_ly spDDTs_A spDDTs_pre a)) ∧ ∀ a i r b, spDDTs.post a i r b = (famPost d_ly spDDTs_post a r b) := ⟨rfl, rfl, rfl, rfl, fun _ _ => rfl, fun _ _ _ _ => rfl⟩
def tb40 : Nat → Option VE.Spec := tabOf [(44, wkIn spNew), (45, wkIn spAScn), (85, wkIn spSOrd)]
theorem tb40_44 : tb40 44 = some (wkIn spNew) := rfl
theorem tb40_45 : tb40 45 = some (wkIn spAScn) := rfl
theorem tb40_85 : tb40 85 = some (wkIn spSOrd) := rfl
theorem tb40_ok : TabOK Tryz.prog rt0 tb40 := (tabOf_cons (by kernel_rfl) sat_spec_newReader (tabOf_cons (by kernel_rfl) sat_spec_anyScene (tabOf_cons (by kernel_rfl) sat_spec_someOrder tabOf_nil)))
set_option maxHeartbeats 4000000 in
theorem sat_spec_DrawDrawTiles_0 : Sat Tryz.prog rt0 40 (wkOut spDDTs) := by
  refine fn_sat hm ttok (tab := tb40) tb40_ok Tryz.func40 (c := Tryz.f40.body.getD .skip) (by kernel_rfl) (ts := [.cell 2 25, .tmp 3]) (by kernel_rfl) Tryz.ntmps40 (sq := fun _ => true) (by kernel_rfl) ?_
  intro args ins pk hpre0 hpk
  obtain ⟨rfl, hpre0⟩ := hpre0
  obtain ⟨code, rfl, hpre, hdec⟩ := famPre_ex hpre0
  clear hpre0 hdec
  try simp only [spDDTs_pre] at hpre
  replace hpk : pk + 1400 ≤ pickLimit := hpk
  refine ⟨Nat.le_of_ble_eq_true rfl, ?_⟩
  simp (config := { maxSteps := 1000000 }) only [go_sem, ↓ifP_true, ↓ifP_false, ↓ifP_not, Nat.reduceLT, Nat.reduceAdd, Nat.reduceBEq, Nat.reduceSub, Nat.reduceLeDiff, Nat.reduceEqDiff, Nat.reduceMul, Int.reduceToNat, Int.reduceEq, Int.reduceLT, Int.reduceLE, Int.reduceAdd, Int.reduceSub, Int.reduceMul, reduceCtorEq, cond_true, cond_false, forall_eq', forall_eq, forall_const, implies_true, if_true, if_false, exists_eq_left', exists_eq', exists_eq, ne_eq, Tryz.f40, tb40_44, tb40_45, tb40_85, spDDTs_q, spDDTs_A, spDDTs_pre, spDDTs_post, spNew_q, spAScn_q, spAScn_A, spAScn_pre, spAScn_post, spSOrd_q, spSOrd_A, spSOrd_pre, spSOrd_post]
  repeat' (first | apply And.intro | (intro _) | omega | assumption | with_reducible rfl)
  all_goals (first | (exact ⟨_, _, rfl, rfl, hpre⟩; done) | (exact trivial; done) | (assumption; done) | (exact ⟨_, _, rfl, rfl, ‹okScn _›, by assumption⟩; done) | (exact ⟨_, _, rfl, rfl, rfl, ‹okScn _›, by assumption⟩; done) | (rfl; done) | ((simp (config := { maxSteps := 1000000 }) only [go_sem, ↓ifP_true, ↓ifP_false, ↓ifP_not, Nat.reduceLT, Nat.reduceAdd, Nat.reduceBEq, Nat.reduceSub, Nat.reduceLeDiff, Nat.reduceEqDiff, Nat.reduceMul, Int.reduceToNat, Int.reduceEq, Int.reduceLT, Int.reduceLE, Int.reduceAdd, Int.reduceSub, Int.reduceMul, reduceCtorEq, cond_true, cond_false, forall_eq', forall_eq, forall_const, implies_true, if_true, if_false, exists_eq_left', exists_eq', exists_eq, ne_eq]; done); done))
theorem sat_spec_DrawDrawTiles : Sat Tryz.prog rt0 40 (wkIn spDDTs) := sat_in (sat_out sat_spec_DrawDrawTiles_0)
end Go.Proofs.YtkhplopcjkkejaaGreat
end
section
set_option maxRecDepth 100000
set_option linter.unusedSimpArgs false
set_option linter.unusedVariables false
namespace Go.Proofs.YtkhplopcjkkejaaGreat
open Go Go.VE
theorem dts_eq {s : Scn} {a b : List Int} (ha : okDTs s a = true) (hb : okDTs s b = true) (h : tilesP s (blankP s) b = tilesP s (blankP s) a) : dtsF s b = dtsF s a := by rw [dts_yes ha, dts_yes hb, h]
theorem dts_back {s : Scn} {a : List Int} (ha : okDTs s a = true) : okDTs s a.reverse = true ∧ dtsF s a.reverse = dtsF s a := by
  obtain ⟨h1, h2, h3⟩ := okDTs_parts ha
  have hb := okDTs_of (ts := a.reverse) h1 (by simpa using h2) (inTs_rev h3)
  exact ⟨hb, dts_eq ha hb (tilesP_rev _ _ _)⟩
theorem dts_dbl {s : Scn} {a : List Int} (ha : okDTs s a = true) (hl : ¬ 30 < 2 * (a.length : Int)) : okDTs s (a ++ a) = true ∧ dtsF s (a ++ a) = dtsF s a := by
  obtain ⟨h1, h2, h3⟩ := okDTs_parts ha
  have hb := okDTs_of (ts := a ++ a) h1 (by rw [List.length_append]; omega) (inTs_two h3)
  exact ⟨hb, dts_eq ha hb (tilesP_two _ _ _)⟩
def allT (n L : Int) (m : Nat) : List Int := (List.range m).map fun j : Nat => (n - 1 - (j : Int) + L) % n
theorem allT_step (n L : Int) {t : Int} (h0 : 0 ≤ n - 1 - t) : allT n L (n - 1 - t).toNat ++ [(t + L) % n] = allT n L (n - 1 - (t - 1)).toNat := by
  rw [show (n - 1 - (t - 1)).toNat = (n - 1 - t).toNat + 1 by omega, allT, allT, List.range_succ, List.map_append]
  simp only [List.map_cons, List.map_nil]
  rw [show n - 1 - ((n - 1 - t).toNat : Int) + L = t + L by omega]
theorem allT_len (n L : Int) (m : Nat) : (allT n L m).length = m := by simp [allT]
theorem allT_in {n L t : Int} (h0 : 0 ≤ t) (h1 : t < n) : t ∈ allT n L n.toNat := by
  have hj1 := Int.emod_nonneg (n - 1 + L - t) (show n ≠ 0 by omega)
  have hj2 := Int.emod_lt_of_pos (n - 1 + L - t) (show 0 < n by omega)
  have hd := Int.mul_ediv_add_emod (n - 1 + L - t) n
  refine List.mem_map.2 ⟨((n - 1 + L - t) % n).toNat, List.mem_range.2 (by omega), ?_⟩
  rw [Int.toNat_of_nonneg hj1]
  rw [show n - 1 - (n - 1 + L - t) % n + L = t + n * ((n - 1 + L - t) / n) by omega, Int.add_mul_emod_self_left, Int.emod_eq_of_lt h0 h1]
theorem allT_ok {s : Scn} {L : Int} (hv : vScn s = true) : okDTs s (allT (tcnt s.w s.h) L (tcnt s.w s.h).toNat) = true ∧ (dtsF s (allT (tcnt s.w s.h) L (tcnt s.w s.h).toNat)).px = drawV s := by
  have hz := (vScn_parts hv).1
  have ha := acr_mul hz
  have ht : tcnt s.w s.h = acr s.w * acr s.h := tcnt_of hz
  have hok : okDTs s (allT (tcnt s.w s.h) L (tcnt s.w s.h).toNat) = true := by
    refine okDTs_of hv (by rw [allT_len]; omega) ?_
    rw [inTs_all hz, List.all_eq_true]
    intro t h
    obtain ⟨j, -, rfl⟩ := List.mem_map.1 h
    have h1 := Int.emod_nonneg (tcnt s.w s.h - 1 - (j : Int) + L) (show tcnt s.w s.h ≠ 0 by omega)
    have h2 := Int.emod_lt_of_pos (tcnt s.w s.h - 1 - (j : Int) + L) (show 0 < tcnt s.w s.h by omega)
    rw [decide_eq_true_eq]; omega
  refine ⟨hok, ?_⟩
  rw [dts_yes hok]
  refine tilesP_all hv fun t h => ?_
  simp only [isT, Bool.and_eq_true, decide_eq_true_eq] at h
  exact allT_in h.2.1 (by omega)
theorem allT_bd2 {n L t : Int} {o : List Int} (h : o = allT n L (n - 1 - t).toNat) : o.length = (n - 1 - t).toNat := by rw [h, allT_len]
theorem allT_fin {n L t : Int} {o : List Int} (h : o = allT n L (n - 1 - t).toNat) (ht : t = -1) : o = allT n L n.toNat := by
  rw [h, ht, show n - 1 - -1 = n by omega]
theorem tcnt_pos {s : Scn} (hv : vScn s = true) : 1 ≤ tcnt s.w s.h := by
  have hz := (vScn_parts hv).1
  have ha := acr_mul hz
  rw [tcnt_of hz]; omega
theorem back_ln {ts o : List Int} {i : Int} (h : o = (ts.drop (i + 1).toNat).reverse) : o.length ≤ ts.length := by
  rw [h, List.length_reverse, List.length_drop]; omega
theorem back_st {ts o : List Int} {i t : Int} (h : o = (ts.drop (i + 1).toNat).reverse) (h0 : 0 ≤ i) (hk : ts[i.toNat]? = some t) : o ++ [t] = (ts.drop (i - 1 + 1).toNat).reverse := by
  rw [h, show i - 1 + 1 = i by omega, dropN hk h0, List.reverse_cons]
theorem back_fin {ts o : List Int} {i : Int} (h : o = (ts.drop (i + 1).toNat).reverse) (hi : i = -1) : o = ts.reverse := by
  rw [h, hi]; rfl
theorem allT_bd {n L t : Int} (hn : 1 ≤ n) (ht : 0 ≤ t + L) : (t + L).tmod n = (t + L) % n := Int.tmod_eq_emod_of_nonneg ht
end Go.Proofs.YtkhplopcjkkejaaGreat
end
