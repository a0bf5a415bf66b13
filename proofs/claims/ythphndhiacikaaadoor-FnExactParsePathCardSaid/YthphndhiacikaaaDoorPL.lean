/- Contracts of functions of the program vectorraster, each proved for all states that fit its description. No conditions. -/
import Derived.Test.YthphndhiacikaaaDoorT2T0
import Derived.Test.YthphndhiacikaaaDoorPC
import Derived.Test.YthphndhiacikaaaDoorPO
set_option linter.unusedSimpArgs false
set_option linter.unusedVariables false
section
set_option maxRecDepth 100000
set_option linter.unusedSimpArgs false
set_option linter.unusedVariables false
namespace Go.Proofs.YthphndhiacikaaaDoor
open Go Go.VE
def fmtB (p : List Verb) : ByteArray := if vPath p = true then mkB (fmtL p) else mkB []
theorem letters_ext {k : Int} (h0 : 0 ≤ k) (h1 : k ≤ 4) : (ByteArray.mk #[77, 76, 81, 67, 90]).extract k.toNat (k + 1).toNat = mkB [letter k] := by
  have : k = 0 ∨ k = 1 ∨ k = 2 ∨ k = 3 ∨ k = 4 := by omega
  rcases this with rfl | rfl | rfl | rfl | rfl <;> exact tx_inj rfl
theorem words_step {p : List Verb} {i : Int} {v : Verb} (h : p[i.toNat]? = some v) (h0 : 0 ≤ i) : words (p.take (i + 1).toNat) = words (p.take i.toNat) ++ vWords v := by
  rw [takeN h h0, words_snoc]
theorem pt_str (q : Pt) : mkB (Lib.itoa q.x) ++ ByteArray.mk #[44] ++ mkB (Lib.itoa q.y) = mkB (ptWord q) := by
  show mkB _ ++ mkB [44] ++ mkB _ = _
  rw [mkB_app, mkB_app]
  simp [ptWord]
theorem join_txt (l : List (List UInt8)) : (l.map mkB).map tx = l := by
  rw [List.map_map]
  exact List.map_id' _
theorem vPath_k {p : List Verb} (h : vPath p = true) {i : Int} {v : Verb} (hv : p[i.toNat]? = some v) : (0 ≤ v.k ∧ v.k ≤ 4) ∧ (∀ q ∈ v.ps, vPt q = true) ∧ v.ps.length ≤ 40 := by
  obtain ⟨h1, h2⟩ := vPath_all h v (List.mem_of_getElem? hv)
  refine ⟨h1, h2, ?_⟩
  have := nPts_mem hv
  simp only [vPath, Bool.and_eq_true, decide_eq_true_eq] at h
  omega
theorem vPath_num {p : List Verb} (h : vPath p = true) : p.length ≤ 30 ∧ nPts p ≤ 40 := by
  simp only [vPath, Bool.and_eq_true, decide_eq_true_eq] at h
  exact ⟨h.1.2, h.2⟩
theorem nPts_take {p : List Verb} (i : Nat) : nPts (p.take i) ≤ nPts p := by
  conv => rhs; rw [← List.take_append_drop i p]
  simp only [nPts, List.map_append, List.sum_append]
  omega
theorem words_few {p : List Verb} (h : vPath p = true) (i : Nat) : (words (p.take i)).length ≤ 70 := by
  have h1 := vPath_num h
  have h2 := nPts_take (p := p) i
  rw [words_len, List.length_take]
  omega
theorem vPt_at {l : List Pt} (h : ∀ q ∈ l, vPt q = true) {j : Nat} {q : Pt} (hq : l[j]? = some q) : (-1000 ≤ q.x ∧ q.x ≤ 1000) ∧ -1000 ≤ q.y ∧ q.y ≤ 1000 := vPt_rg (h q (List.mem_of_getElem? hq))
theorem pt_lens {q : Pt} (h : (-1000 ≤ q.x ∧ q.x ≤ 1000) ∧ -1000 ≤ q.y ∧ q.y ≤ 1000) : (Lib.itoa q.x).length ≤ 5 ∧ (Lib.itoa q.y).length ≤ 5 := ⟨itoa_len (by omega) (by omega), itoa_len (by omega) (by omega)⟩
theorem fmtL_few {p : List Verb} (h : vPath p = true) : (Lib.join (words p) [32]).length ≤ 1000000000 := Nat.le_trans (fmtL_len h) (by decide)
def spFmt_A : (List Verb) → List AV
  | p => [.c (.sl false (p.map vbC))]
def spFmt_pre : (List Verb) → Prop
  | p => p.length ≤ 2000000 ∧ nPts p ≤ 1000000000
def spFmt_post : (List Verb) → AV → List Box → Prop
  | p, r, bs => r = .c (.v (.string (fmtB p))) ∧ bs = []
def spFmt : VE.Spec := famSpec spFmt_A d_lvb spFmt_pre spFmt_post 0 true
theorem spFmt_q : spFmt.flat = true ∧ spFmt.mt = [] ∧ spFmt.shut = false ∧ spFmt.cost = 0 ∧ (∀ a i, spFmt.pre a i = (i = [] ∧ famPre d_lvb spFmt_A spFmt_pre a)) ∧ ∀ a i r b, spFmt.post a i r b = (famPost d_lvb spFmt_post a r b) := ⟨rfl, rfl, rfl, rfl, fun _ _ => rfl, fun _ _ _ _ => rfl⟩
def tb9 : Nat → Option VE.Spec := tabOf [(12, wkIn spVPath), (22, wkIn spItoa), (23, wkIn spJoinS)]
theorem tb9_12 : tb9 12 = some (wkIn spVPath) := rfl
theorem tb9_22 : tb9 22 = some (wkIn spItoa) := rfl
theorem tb9_23 : tb9 23 = some (wkIn spJoinS) := rfl
theorem tb9_ok : TabOK Tryd.prog rt0 tb9 := (tabOf_cons (by kernel_rfl) sat_impl_ValidPath (tabOf_cons (by kernel_rfl) sat_strconv_Itoa (tabOf_cons (by kernel_rfl) sat_strings_Join tabOf_nil)))
set_option maxHeartbeats 4000000 in
theorem sat_impl_FormatPath_0 : Sat Tryd.prog rt0 9 (wkOut spFmt) := by
  refine fn_sat hm ttok (tab := tb9) tb9_ok Tryd.func9 (c := Tryd.f9.body.getD .skip) (by kernel_rfl) (ts := [.tmp 2]) (by kernel_rfl) Tryd.ntmps9 (sq := fun id => !(id == 11)) (by kernel_rfl) ?_
  intro args ins pk hpre0 hpk
  obtain ⟨rfl, hpre0⟩ := hpre0
  obtain ⟨p, rfl, hpre, hdec⟩ := famPre_ex hpre0
  clear hpre0 hdec
  try simp only [spFmt_pre] at hpre
  replace hpk : pk + 0 ≤ pickLimit := hpk
  refine ⟨Nat.le_of_ble_eq_true rfl, ?_⟩
  simp (config := { maxSteps := 1000000 }) only [go_sem, ↓ifP_true, ↓ifP_false, ↓ifP_not, Nat.reduceLT, Nat.reduceAdd, Nat.reduceBEq, Nat.reduceSub, Nat.reduceLeDiff, Nat.reduceEqDiff, Nat.reduceMul, Int.reduceToNat, Int.reduceEq, Int.reduceLT, Int.reduceLE, Int.reduceAdd, Int.reduceSub, Int.reduceMul, reduceCtorEq, cond_true, cond_false, forall_eq', forall_eq, forall_const, implies_true, if_true, if_false, exists_eq_left', exists_eq', exists_eq, ne_eq, Tryd.f9, tb9_12, tb9_22, tb9_23, spFmt_q, spFmt_A, spFmt_pre, spFmt_post, spVPath_q, spVPath_A, spVPath_pre, spVPath_post, spItoa_q, spItoa_A, spItoa_pre, spItoa_post, spJoinS_q, spJoinS_A, spJoinS_pre, spJoinS_post]
  repeat' (first | apply And.intro | (intro _) | omega | assumption | with_reducible rfl)
  all_goals try (refine drawI (VE.Plan.first 0 (VE.Plan.first 1 (VE.Plan.first 2 (VE.Plan.first 5 (VE.Plan.first 6 (VE.Plan.alt 3 (VE.Plan.first 4 (VE.Plan.alt 7 (VE.Plan.first 8 (VE.Plan.alt 9 (VE.Plan.alt 10 (VE.Plan.alt 11 VE.Plan.nil VE.Plan.nil) VE.Plan.nil) VE.Plan.nil)) VE.Plan.nil)) VE.Plan.nil)))))) (by decide +kernel) ?_; simp (config := { maxSteps := 1000000 }) only [go_sem, ↓ifP_true, ↓ifP_false, ↓ifP_not, Nat.reduceLT, Nat.reduceAdd, Nat.reduceBEq, Nat.reduceSub, Nat.reduceLeDiff, Nat.reduceEqDiff, Nat.reduceMul, Int.reduceToNat, Int.reduceEq, Int.reduceLT, Int.reduceLE, Int.reduceAdd, Int.reduceSub, Int.reduceMul, reduceCtorEq, cond_true, cond_false, forall_eq', forall_eq, forall_const, implies_true, if_true, if_false, exists_eq_left', exists_eq', exists_eq, ne_eq, planW, stepW, Go.VE.stepT, Go.VE.clearO, Tryd.f9, tb9_12, tb9_22, tb9_23, spFmt_q, spFmt_A, spFmt_pre, spFmt_post, spVPath_q, spVPath_A, spVPath_pre, spVPath_post, spItoa_q, spItoa_A, spItoa_pre, spItoa_post, spJoinS_q, spJoinS_A, spJoinS_pre, spJoinS_post]; repeat' (first | apply And.intro | (intro _) | omega | assumption | with_reducible rfl))
  any_goals
    refine loopS (α := (List ByteArray) × Int) false [0, 1, 3, 4, 5, 6, 7, 8, 9, 10, 13, 14, 15, 16, 17, 18, 19, 20, 21, 22, 23, 24, 25, 26, 27, 28, 29, 30, 31, 32, 33, 34, 35, 36, 37, 38, 39, 40, 41, 42, 43, 44, 45] (fun σ => [gId (σ.get 3)]) (fun σ x => [(3, .c (.own (gId (σ.get 3)) (x.1).length false)), (13, I x.2)]) (fun σ x => [(gId (σ.get 3), some ⟨(x.1).map sC, 1, 9, true, false⟩)]) (fun (o, i) => 0) (fun σ => (gL sCd σ (σ.get 3), gI (σ.get 13))) (fun σ τ => [(gId (σ.get 3), gId (τ.get 3))]) (fun (o, i) => 0 ≤ i ∧ i ≤ p.length ∧ o = (words (p.take i.toNat)).map mkB) (fun (o, i) => (p.length - i).toNat) ⟨by (simp (config := { maxSteps := 1000000 }) only [go_sem, ↓ifP_true, ↓ifP_false, ↓ifP_not, Nat.reduceLT, Nat.reduceAdd, Nat.reduceBEq, Nat.reduceSub, Nat.reduceLeDiff, Nat.reduceEqDiff, Nat.reduceMul, Int.reduceToNat, Int.reduceEq, Int.reduceLT, Int.reduceLE, Int.reduceAdd, Int.reduceSub, Int.reduceMul, reduceCtorEq, cond_true, cond_false, forall_eq', forall_eq, forall_const, implies_true, if_true, if_false, exists_eq_left', exists_eq', exists_eq, ne_eq, Tryd.f9, tb9_12, tb9_22, tb9_23, spFmt_q, spFmt_A, spFmt_pre, spFmt_post, spVPath_q, spVPath_A, spVPath_pre, spVPath_post, spItoa_q, spItoa_A, spItoa_pre, spItoa_post, spJoinS_q, spJoinS_A, spJoinS_pre, spJoinS_post]; (repeat' (first | apply And.intro | (intro _) | omega | assumption | with_reducible rfl)); all_goals (first | rfl)), ?_⟩
    rintro ⟨o, i⟩ hinv
    try dsimp only at hinv
    rcases elemAt p i (by omega) with ⟨hlt, v, hk⟩ | hlt
    all_goals (first | ((have hlt2 := of_eq_true hlt); (have hV := vPath_k ‹vPath p = true› hk); (have hO : o.length ≤ 70 := (by rw [hinv.2.2, List.length_map]; exact words_few ‹vPath p = true› _)); all_goals simp (config := { maxSteps := 1000000 }) only [go_sem, ↓ifP_true, ↓ifP_false, ↓ifP_not, Nat.reduceLT, Nat.reduceAdd, Nat.reduceBEq, Nat.reduceSub, Nat.reduceLeDiff, Nat.reduceEqDiff, Nat.reduceMul, Int.reduceToNat, Int.reduceEq, Int.reduceLT, Int.reduceLE, Int.reduceAdd, Int.reduceSub, Int.reduceMul, reduceCtorEq, cond_true, cond_false, forall_eq', forall_eq, forall_const, implies_true, if_true, if_false, exists_eq_left', exists_eq', exists_eq, ne_eq, Tryd.f9, tb9_12, tb9_22, tb9_23, spFmt_q, spFmt_A, spFmt_pre, spFmt_post, spVPath_q, spVPath_A, spVPath_pre, spVPath_post, spItoa_q, spItoa_A, spItoa_pre, spItoa_post, spJoinS_q, spJoinS_A, spJoinS_pre, spJoinS_post, hlt, hk]) | (have hlt2 := of_eq_false hlt; simp (config := { maxSteps := 1000000 }) only [go_sem, ↓ifP_true, ↓ifP_false, ↓ifP_not, Nat.reduceLT, Nat.reduceAdd, Nat.reduceBEq, Nat.reduceSub, Nat.reduceLeDiff, Nat.reduceEqDiff, Nat.reduceMul, Int.reduceToNat, Int.reduceEq, Int.reduceLT, Int.reduceLE, Int.reduceAdd, Int.reduceSub, Int.reduceMul, reduceCtorEq, cond_true, cond_false, forall_eq', forall_eq, forall_const, implies_true, if_true, if_false, exists_eq_left', exists_eq', exists_eq, ne_eq, Tryd.f9, tb9_12, tb9_22, tb9_23, spFmt_q, spFmt_A, spFmt_pre, spFmt_post, spVPath_q, spVPath_A, spVPath_pre, spVPath_post, spItoa_q, spItoa_A, spItoa_pre, spItoa_post, spJoinS_q, spJoinS_A, spJoinS_pre, spJoinS_post, hlt]))
    all_goals
      repeat' (first | apply And.intro | (intro _) | omega | assumption | with_reducible rfl)
    all_goals try (refine drawI (VE.Plan.first 0 (VE.Plan.first 1 (VE.Plan.first 2 (VE.Plan.first 5 (VE.Plan.first 6 (VE.Plan.alt 3 (VE.Plan.first 4 (VE.Plan.alt 7 (VE.Plan.first 8 (VE.Plan.alt 9 (VE.Plan.alt 10 (VE.Plan.alt 11 VE.Plan.nil VE.Plan.nil) VE.Plan.nil) VE.Plan.nil)) VE.Plan.nil)) VE.Plan.nil)))))) (by decide +kernel) ?_; (first | simp (config := { maxSteps := 1000000 }) only [go_sem, ↓ifP_true, ↓ifP_false, ↓ifP_not, Nat.reduceLT, Nat.reduceAdd, Nat.reduceBEq, Nat.reduceSub, Nat.reduceLeDiff, Nat.reduceEqDiff, Nat.reduceMul, Int.reduceToNat, Int.reduceEq, Int.reduceLT, Int.reduceLE, Int.reduceAdd, Int.reduceSub, Int.reduceMul, reduceCtorEq, cond_true, cond_false, forall_eq', forall_eq, forall_const, implies_true, if_true, if_false, exists_eq_left', exists_eq', exists_eq, ne_eq, planW, stepW, Go.VE.stepT, Go.VE.clearO, Tryd.f9, tb9_12, tb9_22, tb9_23, spFmt_q, spFmt_A, spFmt_pre, spFmt_post, spVPath_q, spVPath_A, spVPath_pre, spVPath_post, spItoa_q, spItoa_A, spItoa_pre, spItoa_post, spJoinS_q, spJoinS_A, spJoinS_pre, spJoinS_post, hlt, hk] | simp (config := { maxSteps := 1000000 }) only [go_sem, ↓ifP_true, ↓ifP_false, ↓ifP_not, Nat.reduceLT, Nat.reduceAdd, Nat.reduceBEq, Nat.reduceSub, Nat.reduceLeDiff, Nat.reduceEqDiff, Nat.reduceMul, Int.reduceToNat, Int.reduceEq, Int.reduceLT, Int.reduceLE, Int.reduceAdd, Int.reduceSub, Int.reduceMul, reduceCtorEq, cond_true, cond_false, forall_eq', forall_eq, forall_const, implies_true, if_true, if_false, exists_eq_left', exists_eq', exists_eq, ne_eq, planW, stepW, Go.VE.stepT, Go.VE.clearO, Tryd.f9, tb9_12, tb9_22, tb9_23, spFmt_q, spFmt_A, spFmt_pre, spFmt_post, spVPath_q, spVPath_A, spVPath_pre, spVPath_post, spItoa_q, spItoa_A, spItoa_pre, spItoa_post, spJoinS_q, spJoinS_A, spJoinS_pre, spJoinS_post]); repeat' (first | apply And.intro | (intro _) | omega | assumption | with_reducible rfl))
  
  any_goals
    refine loopS (α := (List ByteArray) × Int) false [0, 1, 3, 4, 6, 7, 8, 9, 10, 14, 15, 16, 17, 18, 19, 20, 21, 22, 23, 24, 25, 26, 29, 30, 31, 32, 33, 34, 35, 36, 37, 38, 39, 40, 41, 42, 43, 44] (fun σ => [gId (σ.get 3)]) (fun σ x => [(3, .c (.own (gId (σ.get 3)) (x.1).length false)), (29, I x.2)]) (fun σ x => [(gId (σ.get 3), some ⟨(x.1).map sC, 1, 9, true, false⟩)]) (fun (o, k) => 0) (fun σ => (gL sCd σ (σ.get 3), gI (σ.get 29))) (fun σ τ => [(gId (σ.get 3), gId (τ.get 3))]) (fun (o, k) => 0 ≤ k ∧ k ≤ v.ps.length ∧ o = (words (p.take i.toNat) ++ [letter v.k] :: (v.ps.take k.toNat).map ptWord).map mkB) (fun (o, k) => (v.ps.length - k).toNat) ⟨by (simp (config := { maxSteps := 1000000 }) only [go_sem, ↓ifP_true, ↓ifP_false, ↓ifP_not, Nat.reduceLT, Nat.reduceAdd, Nat.reduceBEq, Nat.reduceSub, Nat.reduceLeDiff, Nat.reduceEqDiff, Nat.reduceMul, Int.reduceToNat, Int.reduceEq, Int.reduceLT, Int.reduceLE, Int.reduceAdd, Int.reduceSub, Int.reduceMul, reduceCtorEq, cond_true, cond_false, forall_eq', forall_eq, forall_const, implies_true, if_true, if_false, exists_eq_left', exists_eq', exists_eq, ne_eq, Tryd.f9, tb9_12, tb9_22, tb9_23, spFmt_q, spFmt_A, spFmt_pre, spFmt_post, spVPath_q, spVPath_A, spVPath_pre, spVPath_post, spItoa_q, spItoa_A, spItoa_pre, spItoa_post, spJoinS_q, spJoinS_A, spJoinS_pre, spJoinS_post]; (repeat' (first | apply And.intro | (intro _) | omega | assumption | with_reducible rfl)); all_goals (first | (rw [hinv.2.2, letters_ext hV.1.1 hV.1.2]) | (simp only [List.take_zero, Int.toNat_zero, List.map_nil, List.map_append, List.map_cons]; rw [hinv.2.2, letters_ext hV.1.1 hV.1.2]))), ?_⟩
    rintro ⟨o, k⟩ hinv
    try dsimp only at hinv
    simp (config := { maxSteps := 1000000 }) only [go_sem, ↓ifP_true, ↓ifP_false, ↓ifP_not, Nat.reduceLT, Nat.reduceAdd, Nat.reduceBEq, Nat.reduceSub, Nat.reduceLeDiff, Nat.reduceEqDiff, Nat.reduceMul, Int.reduceToNat, Int.reduceEq, Int.reduceLT, Int.reduceLE, Int.reduceAdd, Int.reduceSub, Int.reduceMul, reduceCtorEq, cond_true, cond_false, forall_eq', forall_eq, forall_const, implies_true, if_true, if_false, exists_eq_left', exists_eq', exists_eq, ne_eq, Tryd.f9, tb9_12, tb9_22, tb9_23, spFmt_q, spFmt_A, spFmt_pre, spFmt_post, spVPath_q, spVPath_A, spVPath_pre, spVPath_post, spItoa_q, spItoa_A, spItoa_pre, spItoa_post, spJoinS_q, spJoinS_A, spJoinS_pre, spJoinS_post]
    repeat' (first | apply And.intro | (intro _) | omega | assumption | with_reducible rfl)
    all_goals try (refine drawI (VE.Plan.first 0 (VE.Plan.first 1 (VE.Plan.first 2 (VE.Plan.first 5 (VE.Plan.first 6 (VE.Plan.alt 3 (VE.Plan.first 4 (VE.Plan.alt 7 (VE.Plan.first 8 (VE.Plan.alt 9 (VE.Plan.alt 10 (VE.Plan.alt 11 VE.Plan.nil VE.Plan.nil) VE.Plan.nil) VE.Plan.nil)) VE.Plan.nil)) VE.Plan.nil)))))) (by decide +kernel) ?_; simp (config := { maxSteps := 1000000 }) only [go_sem, ↓ifP_true, ↓ifP_false, ↓ifP_not, Nat.reduceLT, Nat.reduceAdd, Nat.reduceBEq, Nat.reduceSub, Nat.reduceLeDiff, Nat.reduceEqDiff, Nat.reduceMul, Int.reduceToNat, Int.reduceEq, Int.reduceLT, Int.reduceLE, Int.reduceAdd, Int.reduceSub, Int.reduceMul, reduceCtorEq, cond_true, cond_false, forall_eq', forall_eq, forall_const, implies_true, if_true, if_false, exists_eq_left', exists_eq', exists_eq, ne_eq, planW, stepW, Go.VE.stepT, Go.VE.clearO, Tryd.f9, tb9_12, tb9_22, tb9_23, spFmt_q, spFmt_A, spFmt_pre, spFmt_post, spVPath_q, spVPath_A, spVPath_pre, spVPath_post, spItoa_q, spItoa_A, spItoa_pre, spItoa_post, spJoinS_q, spJoinS_A, spJoinS_pre, spJoinS_post]; repeat' (first | apply And.intro | (intro _) | omega | assumption | with_reducible rfl))
  all_goals (first | ((have h9 := vPt_at hV.2.1 ‹v.ps[_]? = some _›; omega); done) | ((rw [hinv.2.2, pt_str, takeN ‹v.ps[_]? = some _› hinv.1]; simp); done) | ((have h9 := pt_lens (vPt_at hV.2.1 ‹v.ps[_]? = some _›); simp only [mkB_size, List.size_toArray, List.length_singleton]; omega); done) | ((rw [hinv.2.2, takeA (l := v.ps) (i := k) (by omega), words_step hk (by omega)]; rfl); done) | ((have h9 := hinv.2.2; rw [h9, List.length_map, List.length_append, List.length_cons, List.length_map, List.length_take]; have := words_few ‹vPath p = true› i.toNat; omega); done) | ((rw [hinv.2.2, List.length_map]; have := words_few ‹vPath p = true› i.toNat; omega); done) | ((rw [hinv.2.2, takeA (by omega), join_txt]; exact fmtL_few ‹vPath p = true›); done) | ((rw [hinv.2.2, takeA (by omega), join_txt, fmtB, if_pos ‹vPath p = true›]; rfl); done) | ((rw [fmtB, if_neg (by simp [‹vPath p = false›])]; rfl); done) | ((simp only [List.size_toArray, List.length_cons, List.length_nil]; omega); done) | ((rw [hinv.2.2, letters_ext hV.1.1 hV.1.2]); done) | (omega; done))
theorem sat_impl_FormatPath : Sat Tryd.prog rt0 9 (wkIn spFmt) := sat_in (sat_out sat_impl_FormatPath_0)
end Go.Proofs.YthphndhiacikaaaDoor
end
section
set_option maxRecDepth 100000
set_option linter.unusedSimpArgs false
set_option linter.unusedVariables false
namespace Go.Proofs.YthphndhiacikaaaDoor
open Go Go.VE
theorem join_sp {ws : List (List UInt8)} (h : ws ≠ []) (w : List UInt8) : mkB (Lib.join ws [32]) ++ ByteArray.mk #[32] ++ mkB w = mkB (Lib.join (ws ++ [w]) [32]) := by
  show mkB _ ++ mkB [32] ++ mkB _ = _
  rw [mkB_app, mkB_app, join_snoc h]
theorem letters_at {k : Int} (h0 : 0 ≤ k) (h1 : k ≤ 4) : ([[C.v (.string ⟨#[77]⟩)], [C.v (.string ⟨#[76]⟩)], [C.v (.string ⟨#[81]⟩)], [C.v (.string ⟨#[67]⟩)], [C.v (.string ⟨#[90]⟩)]] : List (List C))[k.toNat]? = some [C.v (.string (mkB [letter k]))] := by
  have : k = 0 ∨ k = 1 ∨ k = 2 ∨ k = 3 ∨ k = 4 := by omega
  rcases this with rfl | rfl | rfl | rfl | rfl <;> rfl
theorem join_first (w : List UInt8) : mkB (Lib.join [] [32]) ++ mkB w = mkB (Lib.join ([] ++ [w]) [32]) := by
  rw [mkB_app]; rw [List.nil_append, Lib.join_one]; rfl
theorem words_pos {p : List Verb} {i : Int} (h0 : 0 < i) (hi : i ≤ p.length) : words (p.take i.toNat) ≠ [] := by
  apply words_ne
  intro h
  have := congrArg List.length h
  rw [List.length_take, List.length_nil] at this
  omega
theorem join_pt {ws : List (List UInt8)} (h : ws ≠ []) (q : Pt) : mkB (Lib.join ws [32]) ++ ByteArray.mk #[32] ++ mkB (Lib.itoa q.x) ++ ByteArray.mk #[44] ++ mkB (Lib.itoa q.y) = mkB (Lib.join (ws ++ [ptWord q]) [32]) := by
  rw [← join_sp h]
  show mkB _ ++ mkB [32] ++ mkB _ ++ mkB [44] ++ mkB _ = mkB _ ++ mkB [32] ++ mkB _
  simp only [mkB_app, ptWord, List.append_assoc, List.cons_append, List.nil_append]
theorem join_part {p : List Verb} (h : vPath p = true) {i : Int} {v : Verb} (hv : p[i.toNat]? = some v) (k : Nat) : (Lib.join (words (p.take i.toNat)) [32]).length ≤ 2000 ∧ (Lib.join (words (p.take i.toNat) ++ [letter v.k] :: (v.ps.take k).map ptWord) [32]).length ≤ 2000 := by
  have hw := word_len h
  have h1 := words_few h i.toNat
  obtain ⟨hk, hq, hl⟩ := vPath_k h hv
  have ha : ∀ w ∈ words (p.take i.toNat), w.length ≤ 11 := by
    intro w hm
    refine hw w ?_
    simp only [words, List.mem_flatMap] at hm ⊢
    obtain ⟨a, b, c⟩ := hm
    exact ⟨a, List.mem_of_mem_take b, c⟩
  refine ⟨by have := join_len ha; omega, ?_⟩
  have := join_len (ws := words (p.take i.toNat) ++ [letter v.k] :: (v.ps.take k).map ptWord) ?_
  · simp only [List.length_append, List.length_cons, List.length_map, List.length_take] at this
    omega
  · intro w hm
    rcases List.mem_append.1 hm with hm | hm
    · exact ha w hm
    · rcases List.mem_cons.1 hm with rfl | hm
      · simp
      · simp only [List.mem_map] at hm
        obtain ⟨q, hm2, rfl⟩ := hm
        have := pt_lens (vPt_rg (hq q (List.mem_of_mem_take hm2)))
        simp only [ptWord, List.length_append, List.length_cons]
        omega
def spFmtV_A : (List Verb) → List AV
  | p => [.c (.sl false (p.map vbC))]
def spFmtV_pre : (List Verb) → Prop
  | p => vPath p = true
def spFmtV_post : (List Verb) → AV → List Box → Prop
  | p, r, bs => r = .c (.v (.string (mkB (fmtL p)))) ∧ bs = []
def spFmtV : VE.Spec := famSpec spFmtV_A d_lvb spFmtV_pre spFmtV_post 0 true
theorem spFmtV_q : spFmtV.flat = true ∧ spFmtV.mt = [] ∧ spFmtV.shut = false ∧ spFmtV.cost = 0 ∧ (∀ a i, spFmtV.pre a i = (i = [] ∧ famPre d_lvb spFmtV_A spFmtV_pre a)) ∧ ∀ a i r b, spFmtV.post a i r b = (famPost d_lvb spFmtV_post a r b) := ⟨rfl, rfl, rfl, rfl, fun _ _ => rfl, fun _ _ _ _ => rfl⟩
def tb20 : Nat → Option VE.Spec := tabOf [(42, wkIn spDecI)]
theorem tb20_42 : tb20 42 = some (wkIn spDecI) := rfl
theorem tb20_ok : TabOK Tryd.prog rt0 tb20 := (tabOf_cons (by kernel_rfl) sat_spec_decimal tabOf_nil)
set_option maxHeartbeats 4000000 in
theorem sat_spec_formatPath_0 : Sat Tryd.prog rt0 20 (wkOut spFmtV) := by
  refine fn_sat hm ttok (tab := tb20) tb20_ok Tryd.func20 (c := Tryd.f20.body.getD .skip) (by kernel_rfl) (ts := [.tmp 2]) (by kernel_rfl) Tryd.ntmps20 (sq := fun id => !(id == 11)) (by kernel_rfl) ?_
  intro args ins pk hpre0 hpk
  obtain ⟨rfl, hpre0⟩ := hpre0
  obtain ⟨p, rfl, hpre, hdec⟩ := famPre_ex hpre0
  clear hpre0 hdec
  try simp only [spFmtV_pre] at hpre
  replace hpk : pk + 0 ≤ pickLimit := hpk
  refine ⟨Nat.le_of_ble_eq_true rfl, ?_⟩
  simp (config := { maxSteps := 1000000 }) only [go_sem, ↓ifP_true, ↓ifP_false, ↓ifP_not, Nat.reduceLT, Nat.reduceAdd, Nat.reduceBEq, Nat.reduceSub, Nat.reduceLeDiff, Nat.reduceEqDiff, Nat.reduceMul, Int.reduceToNat, Int.reduceEq, Int.reduceLT, Int.reduceLE, Int.reduceAdd, Int.reduceSub, Int.reduceMul, reduceCtorEq, cond_true, cond_false, forall_eq', forall_eq, forall_const, implies_true, if_true, if_false, exists_eq_left', exists_eq', exists_eq, ne_eq, Tryd.f20, tb20_42, spFmtV_q, spFmtV_A, spFmtV_pre, spFmtV_post, spDecI_q, spDecI_A, spDecI_pre, spDecI_post]
  repeat' (first | apply And.intro | (intro _) | omega | assumption | with_reducible rfl)
  all_goals try (refine drawI (VE.Plan.first 0 (VE.Plan.first 1 (VE.Plan.first 2 (VE.Plan.first 3 (VE.Plan.first 4 (VE.Plan.first 5 (VE.Plan.first 6 (VE.Plan.first 7 (VE.Plan.first 8 (VE.Plan.first 9 (VE.Plan.first 10 (VE.Plan.first 14 (VE.Plan.first 15 (VE.Plan.first 16 (VE.Plan.first 17 (VE.Plan.first 18 (VE.Plan.first 19 (VE.Plan.first 20 (VE.Plan.first 21 (VE.Plan.first 22 (VE.Plan.alt 11 (VE.Plan.first 12 (VE.Plan.first 13 (VE.Plan.alt 23 (VE.Plan.first 24 (VE.Plan.alt 25 VE.Plan.nil VE.Plan.nil)) VE.Plan.nil))) VE.Plan.nil))))))))))))))))))))) (by decide +kernel) ?_; simp (config := { maxSteps := 1000000 }) only [go_sem, ↓ifP_true, ↓ifP_false, ↓ifP_not, Nat.reduceLT, Nat.reduceAdd, Nat.reduceBEq, Nat.reduceSub, Nat.reduceLeDiff, Nat.reduceEqDiff, Nat.reduceMul, Int.reduceToNat, Int.reduceEq, Int.reduceLT, Int.reduceLE, Int.reduceAdd, Int.reduceSub, Int.reduceMul, reduceCtorEq, cond_true, cond_false, forall_eq', forall_eq, forall_const, implies_true, if_true, if_false, exists_eq_left', exists_eq', exists_eq, ne_eq, planW, stepW, Go.VE.stepT, Go.VE.clearO, Tryd.f20, tb20_42, spFmtV_q, spFmtV_A, spFmtV_pre, spFmtV_post, spDecI_q, spDecI_A, spDecI_pre, spDecI_post]; repeat' (first | apply And.intro | (intro _) | omega | assumption | with_reducible rfl))
  any_goals
    refine loopS (α := ByteArray × Int) false [1, 3, 4, 5, 6, 7, 8, 9, 10, 11, 12, 13, 14, 15, 16, 17, 18, 19, 20, 21, 22, 23, 24, 25, 26, 27, 28, 29, 30, 31, 32, 33, 34, 35, 36, 37, 38, 39, 40, 41, 42, 43, 44, 45, 46, 47, 48, 49, 50, 51, 52, 53, 54, 55, 56, 57, 58, 59, 60] (fun σ => []) (fun σ x => [(3, .c (.v (.string x.1))), (4, I x.2)]) (fun σ x => []) (fun (z, i) => 0) (fun σ => (gSt (σ.get 3), gI (σ.get 4))) (fun σ τ => []) (fun (z, i) => 0 ≤ i ∧ i ≤ p.length ∧ z = mkB (Lib.join (words (p.take i.toNat)) [32])) (fun (z, i) => (p.length - i).toNat) ⟨by (simp (config := { maxSteps := 1000000 }) only [go_sem, ↓ifP_true, ↓ifP_false, ↓ifP_not, Nat.reduceLT, Nat.reduceAdd, Nat.reduceBEq, Nat.reduceSub, Nat.reduceLeDiff, Nat.reduceEqDiff, Nat.reduceMul, Int.reduceToNat, Int.reduceEq, Int.reduceLT, Int.reduceLE, Int.reduceAdd, Int.reduceSub, Int.reduceMul, reduceCtorEq, cond_true, cond_false, forall_eq', forall_eq, forall_const, implies_true, if_true, if_false, exists_eq_left', exists_eq', exists_eq, ne_eq, Tryd.f20, tb20_42, spFmtV_q, spFmtV_A, spFmtV_pre, spFmtV_post, spDecI_q, spDecI_A, spDecI_pre, spDecI_post]; (repeat' (first | apply And.intro | (intro _) | omega | assumption | with_reducible rfl)); all_goals (first | rfl)), ?_⟩
    rintro ⟨z, i⟩ hinv
    try dsimp only at hinv
    rcases elemAt p i (by omega) with ⟨hlt, v, hk⟩ | hlt
    all_goals (first | ((have hlt2 := of_eq_true hlt); (have hV := vPath_k hpre hk); (have hk0 := hk); (have hP := join_part hpre hk 0); (obtain ⟨k0, ps⟩ := v); (dsimp only at hV hP); (have hL := letters_at hV.1.1 hV.1.2); (have hZ : z.size ≤ 2000 := (by rw [hinv.2.2, mkB_size]; exact hP.1)); all_goals (first | simp (config := { maxSteps := 1000000 }) only [go_sem, ↓ifP_true, ↓ifP_false, ↓ifP_not, Nat.reduceLT, Nat.reduceAdd, Nat.reduceBEq, Nat.reduceSub, Nat.reduceLeDiff, Nat.reduceEqDiff, Nat.reduceMul, Int.reduceToNat, Int.reduceEq, Int.reduceLT, Int.reduceLE, Int.reduceAdd, Int.reduceSub, Int.reduceMul, reduceCtorEq, cond_true, cond_false, forall_eq', forall_eq, forall_const, implies_true, if_true, if_false, exists_eq_left', exists_eq', exists_eq, ne_eq, Tryd.f20, tb20_42, spFmtV_q, spFmtV_A, spFmtV_pre, spFmtV_post, spDecI_q, spDecI_A, spDecI_pre, spDecI_post, hlt, hk, hL] | simp (config := { maxSteps := 1000000 }) only [go_sem, ↓ifP_true, ↓ifP_false, ↓ifP_not, Nat.reduceLT, Nat.reduceAdd, Nat.reduceBEq, Nat.reduceSub, Nat.reduceLeDiff, Nat.reduceEqDiff, Nat.reduceMul, Int.reduceToNat, Int.reduceEq, Int.reduceLT, Int.reduceLE, Int.reduceAdd, Int.reduceSub, Int.reduceMul, reduceCtorEq, cond_true, cond_false, forall_eq', forall_eq, forall_const, implies_true, if_true, if_false, exists_eq_left', exists_eq', exists_eq, ne_eq, Tryd.f20, tb20_42, spFmtV_q, spFmtV_A, spFmtV_pre, spFmtV_post, spDecI_q, spDecI_A, spDecI_pre, spDecI_post, hlt, hk])) | (have hlt2 := of_eq_false hlt; (first | simp (config := { maxSteps := 1000000 }) only [go_sem, ↓ifP_true, ↓ifP_false, ↓ifP_not, Nat.reduceLT, Nat.reduceAdd, Nat.reduceBEq, Nat.reduceSub, Nat.reduceLeDiff, Nat.reduceEqDiff, Nat.reduceMul, Int.reduceToNat, Int.reduceEq, Int.reduceLT, Int.reduceLE, Int.reduceAdd, Int.reduceSub, Int.reduceMul, reduceCtorEq, cond_true, cond_false, forall_eq', forall_eq, forall_const, implies_true, if_true, if_false, exists_eq_left', exists_eq', exists_eq, ne_eq, Tryd.f20, tb20_42, spFmtV_q, spFmtV_A, spFmtV_pre, spFmtV_post, spDecI_q, spDecI_A, spDecI_pre, spDecI_post, hlt, hL] | simp (config := { maxSteps := 1000000 }) only [go_sem, ↓ifP_true, ↓ifP_false, ↓ifP_not, Nat.reduceLT, Nat.reduceAdd, Nat.reduceBEq, Nat.reduceSub, Nat.reduceLeDiff, Nat.reduceEqDiff, Nat.reduceMul, Int.reduceToNat, Int.reduceEq, Int.reduceLT, Int.reduceLE, Int.reduceAdd, Int.reduceSub, Int.reduceMul, reduceCtorEq, cond_true, cond_false, forall_eq', forall_eq, forall_const, implies_true, if_true, if_false, exists_eq_left', exists_eq', exists_eq, ne_eq, Tryd.f20, tb20_42, spFmtV_q, spFmtV_A, spFmtV_pre, spFmtV_post, spDecI_q, spDecI_A, spDecI_pre, spDecI_post, hlt])))
    all_goals
      repeat' (first | apply And.intro | (intro _) | omega | assumption | with_reducible rfl)
    all_goals try (refine drawI (VE.Plan.first 0 (VE.Plan.first 1 (VE.Plan.first 2 (VE.Plan.first 3 (VE.Plan.first 4 (VE.Plan.first 5 (VE.Plan.first 6 (VE.Plan.first 7 (VE.Plan.first 8 (VE.Plan.first 9 (VE.Plan.first 10 (VE.Plan.first 14 (VE.Plan.first 15 (VE.Plan.first 16 (VE.Plan.first 17 (VE.Plan.first 18 (VE.Plan.first 19 (VE.Plan.first 20 (VE.Plan.first 21 (VE.Plan.first 22 (VE.Plan.alt 11 (VE.Plan.first 12 (VE.Plan.first 13 (VE.Plan.alt 23 (VE.Plan.first 24 (VE.Plan.alt 25 VE.Plan.nil VE.Plan.nil)) VE.Plan.nil))) VE.Plan.nil))))))))))))))))))))) (by decide +kernel) ?_; (first | simp (config := { maxSteps := 1000000 }) only [go_sem, ↓ifP_true, ↓ifP_false, ↓ifP_not, Nat.reduceLT, Nat.reduceAdd, Nat.reduceBEq, Nat.reduceSub, Nat.reduceLeDiff, Nat.reduceEqDiff, Nat.reduceMul, Int.reduceToNat, Int.reduceEq, Int.reduceLT, Int.reduceLE, Int.reduceAdd, Int.reduceSub, Int.reduceMul, reduceCtorEq, cond_true, cond_false, forall_eq', forall_eq, forall_const, implies_true, if_true, if_false, exists_eq_left', exists_eq', exists_eq, ne_eq, planW, stepW, Go.VE.stepT, Go.VE.clearO, Tryd.f20, tb20_42, spFmtV_q, spFmtV_A, spFmtV_pre, spFmtV_post, spDecI_q, spDecI_A, spDecI_pre, spDecI_post, hlt, hk, hL] | simp (config := { maxSteps := 1000000 }) only [go_sem, ↓ifP_true, ↓ifP_false, ↓ifP_not, Nat.reduceLT, Nat.reduceAdd, Nat.reduceBEq, Nat.reduceSub, Nat.reduceLeDiff, Nat.reduceEqDiff, Nat.reduceMul, Int.reduceToNat, Int.reduceEq, Int.reduceLT, Int.reduceLE, Int.reduceAdd, Int.reduceSub, Int.reduceMul, reduceCtorEq, cond_true, cond_false, forall_eq', forall_eq, forall_const, implies_true, if_true, if_false, exists_eq_left', exists_eq', exists_eq, ne_eq, planW, stepW, Go.VE.stepT, Go.VE.clearO, Tryd.f20, tb20_42, spFmtV_q, spFmtV_A, spFmtV_pre, spFmtV_post, spDecI_q, spDecI_A, spDecI_pre, spDecI_post, hlt, hk] | simp (config := { maxSteps := 1000000 }) only [go_sem, ↓ifP_true, ↓ifP_false, ↓ifP_not, Nat.reduceLT, Nat.reduceAdd, Nat.reduceBEq, Nat.reduceSub, Nat.reduceLeDiff, Nat.reduceEqDiff, Nat.reduceMul, Int.reduceToNat, Int.reduceEq, Int.reduceLT, Int.reduceLE, Int.reduceAdd, Int.reduceSub, Int.reduceMul, reduceCtorEq, cond_true, cond_false, forall_eq', forall_eq, forall_const, implies_true, if_true, if_false, exists_eq_left', exists_eq', exists_eq, ne_eq, planW, stepW, Go.VE.stepT, Go.VE.clearO, Tryd.f20, tb20_42, spFmtV_q, spFmtV_A, spFmtV_pre, spFmtV_post, spDecI_q, spDecI_A, spDecI_pre, spDecI_post]); repeat' (first | apply And.intro | (intro _) | omega | assumption | with_reducible rfl))
  
  any_goals
    refine loopS (α := ByteArray × Int) false [1, 3, 5, 6, 7, 8, 9, 10, 11, 12, 13, 14, 15, 16, 17, 18, 19, 20, 21, 22, 23, 24, 25, 26, 27, 28, 29, 30, 31, 32, 33, 34, 35, 36, 37, 38, 39, 40, 41, 42, 43, 44, 45, 46, 47, 48, 49, 50, 51, 52, 53, 54, 55, 56, 57, 58, 59, 60] (fun σ => []) (fun σ x => [(3, .c (.v (.string x.1))), (5, I x.2)]) (fun σ x => []) (fun (z, k) => 0) (fun σ => (gSt (σ.get 3), gI (σ.get 5))) (fun σ τ => []) (fun (z, k) => 0 ≤ k ∧ k ≤ ps.length ∧ z = mkB (Lib.join (words (p.take i.toNat) ++ [letter k0] :: (ps.take k.toNat).map ptWord) [32])) (fun (z, k) => (ps.length - k).toNat) ⟨by (simp (config := { maxSteps := 1000000 }) only [go_sem, ↓ifP_true, ↓ifP_false, ↓ifP_not, Nat.reduceLT, Nat.reduceAdd, Nat.reduceBEq, Nat.reduceSub, Nat.reduceLeDiff, Nat.reduceEqDiff, Nat.reduceMul, Int.reduceToNat, Int.reduceEq, Int.reduceLT, Int.reduceLE, Int.reduceAdd, Int.reduceSub, Int.reduceMul, reduceCtorEq, cond_true, cond_false, forall_eq', forall_eq, forall_const, implies_true, if_true, if_false, exists_eq_left', exists_eq', exists_eq, ne_eq, Tryd.f20, tb20_42, spFmtV_q, spFmtV_A, spFmtV_pre, spFmtV_post, spDecI_q, spDecI_A, spDecI_pre, spDecI_post]; (repeat' (first | apply And.intro | (intro _) | omega | assumption | with_reducible rfl)); all_goals (first | (rw [hinv.2.2, join_sp (words_pos (by omega) (by omega))]) | (rw [hinv.2.2, show i = 0 by omega]; exact join_first _))), ?_⟩
    rintro ⟨z, k⟩ hinv
    try dsimp only at hinv
    rcases elemAt ps k (by omega) with ⟨hlt, q, hk⟩ | hlt
    all_goals (first | ((have hlt2 := of_eq_true hlt); (have hZ2 : z.size ≤ 2000 := (by rw [hinv.2.2, mkB_size]; exact (join_part hpre hk0 k.toNat).2)); (have hq0 := vPt_at hV.2.1 hk); (have hq := pt_lens hq0); all_goals (first | simp (config := { maxSteps := 1000000 }) only [go_sem, ↓ifP_true, ↓ifP_false, ↓ifP_not, Nat.reduceLT, Nat.reduceAdd, Nat.reduceBEq, Nat.reduceSub, Nat.reduceLeDiff, Nat.reduceEqDiff, Nat.reduceMul, Int.reduceToNat, Int.reduceEq, Int.reduceLT, Int.reduceLE, Int.reduceAdd, Int.reduceSub, Int.reduceMul, reduceCtorEq, cond_true, cond_false, forall_eq', forall_eq, forall_const, implies_true, if_true, if_false, exists_eq_left', exists_eq', exists_eq, ne_eq, Tryd.f20, tb20_42, spFmtV_q, spFmtV_A, spFmtV_pre, spFmtV_post, spDecI_q, spDecI_A, spDecI_pre, spDecI_post, hlt, hk, hk0] | simp (config := { maxSteps := 1000000 }) only [go_sem, ↓ifP_true, ↓ifP_false, ↓ifP_not, Nat.reduceLT, Nat.reduceAdd, Nat.reduceBEq, Nat.reduceSub, Nat.reduceLeDiff, Nat.reduceEqDiff, Nat.reduceMul, Int.reduceToNat, Int.reduceEq, Int.reduceLT, Int.reduceLE, Int.reduceAdd, Int.reduceSub, Int.reduceMul, reduceCtorEq, cond_true, cond_false, forall_eq', forall_eq, forall_const, implies_true, if_true, if_false, exists_eq_left', exists_eq', exists_eq, ne_eq, Tryd.f20, tb20_42, spFmtV_q, spFmtV_A, spFmtV_pre, spFmtV_post, spDecI_q, spDecI_A, spDecI_pre, spDecI_post, hlt, hk])) | (have hlt2 := of_eq_false hlt; (first | simp (config := { maxSteps := 1000000 }) only [go_sem, ↓ifP_true, ↓ifP_false, ↓ifP_not, Nat.reduceLT, Nat.reduceAdd, Nat.reduceBEq, Nat.reduceSub, Nat.reduceLeDiff, Nat.reduceEqDiff, Nat.reduceMul, Int.reduceToNat, Int.reduceEq, Int.reduceLT, Int.reduceLE, Int.reduceAdd, Int.reduceSub, Int.reduceMul, reduceCtorEq, cond_true, cond_false, forall_eq', forall_eq, forall_const, implies_true, if_true, if_false, exists_eq_left', exists_eq', exists_eq, ne_eq, Tryd.f20, tb20_42, spFmtV_q, spFmtV_A, spFmtV_pre, spFmtV_post, spDecI_q, spDecI_A, spDecI_pre, spDecI_post, hlt, hk0] | simp (config := { maxSteps := 1000000 }) only [go_sem, ↓ifP_true, ↓ifP_false, ↓ifP_not, Nat.reduceLT, Nat.reduceAdd, Nat.reduceBEq, Nat.reduceSub, Nat.reduceLeDiff, Nat.reduceEqDiff, Nat.reduceMul, Int.reduceToNat, Int.reduceEq, Int.reduceLT, Int.reduceLE, Int.reduceAdd, Int.reduceSub, Int.reduceMul, reduceCtorEq, cond_true, cond_false, forall_eq', forall_eq, forall_const, implies_true, if_true, if_false, exists_eq_left', exists_eq', exists_eq, ne_eq, Tryd.f20, tb20_42, spFmtV_q, spFmtV_A, spFmtV_pre, spFmtV_post, spDecI_q, spDecI_A, spDecI_pre, spDecI_post, hlt])))
    all_goals
    repeat' (first | apply And.intro | (intro _) | omega | assumption | with_reducible rfl)
    all_goals try (refine drawI (VE.Plan.first 0 (VE.Plan.first 1 (VE.Plan.first 2 (VE.Plan.first 3 (VE.Plan.first 4 (VE.Plan.first 5 (VE.Plan.first 6 (VE.Plan.first 7 (VE.Plan.first 8 (VE.Plan.first 9 (VE.Plan.first 10 (VE.Plan.first 14 (VE.Plan.first 15 (VE.Plan.first 16 (VE.Plan.first 17 (VE.Plan.first 18 (VE.Plan.first 19 (VE.Plan.first 20 (VE.Plan.first 21 (VE.Plan.first 22 (VE.Plan.alt 11 (VE.Plan.first 12 (VE.Plan.first 13 (VE.Plan.alt 23 (VE.Plan.first 24 (VE.Plan.alt 25 VE.Plan.nil VE.Plan.nil)) VE.Plan.nil))) VE.Plan.nil))))))))))))))))))))) (by decide +kernel) ?_; (first | simp (config := { maxSteps := 1000000 }) only [go_sem, ↓ifP_true, ↓ifP_false, ↓ifP_not, Nat.reduceLT, Nat.reduceAdd, Nat.reduceBEq, Nat.reduceSub, Nat.reduceLeDiff, Nat.reduceEqDiff, Nat.reduceMul, Int.reduceToNat, Int.reduceEq, Int.reduceLT, Int.reduceLE, Int.reduceAdd, Int.reduceSub, Int.reduceMul, reduceCtorEq, cond_true, cond_false, forall_eq', forall_eq, forall_const, implies_true, if_true, if_false, exists_eq_left', exists_eq', exists_eq, ne_eq, planW, stepW, Go.VE.stepT, Go.VE.clearO, Tryd.f20, tb20_42, spFmtV_q, spFmtV_A, spFmtV_pre, spFmtV_post, spDecI_q, spDecI_A, spDecI_pre, spDecI_post, hlt, hk, hk0] | simp (config := { maxSteps := 1000000 }) only [go_sem, ↓ifP_true, ↓ifP_false, ↓ifP_not, Nat.reduceLT, Nat.reduceAdd, Nat.reduceBEq, Nat.reduceSub, Nat.reduceLeDiff, Nat.reduceEqDiff, Nat.reduceMul, Int.reduceToNat, Int.reduceEq, Int.reduceLT, Int.reduceLE, Int.reduceAdd, Int.reduceSub, Int.reduceMul, reduceCtorEq, cond_true, cond_false, forall_eq', forall_eq, forall_const, implies_true, if_true, if_false, exists_eq_left', exists_eq', exists_eq, ne_eq, planW, stepW, Go.VE.stepT, Go.VE.clearO, Tryd.f20, tb20_42, spFmtV_q, spFmtV_A, spFmtV_pre, spFmtV_post, spDecI_q, spDecI_A, spDecI_pre, spDecI_post, hlt, hk] | simp (config := { maxSteps := 1000000 }) only [go_sem, ↓ifP_true, ↓ifP_false, ↓ifP_not, Nat.reduceLT, Nat.reduceAdd, Nat.reduceBEq, Nat.reduceSub, Nat.reduceLeDiff, Nat.reduceEqDiff, Nat.reduceMul, Int.reduceToNat, Int.reduceEq, Int.reduceLT, Int.reduceLE, Int.reduceAdd, Int.reduceSub, Int.reduceMul, reduceCtorEq, cond_true, cond_false, forall_eq', forall_eq, forall_const, implies_true, if_true, if_false, exists_eq_left', exists_eq', exists_eq, ne_eq, planW, stepW, Go.VE.stepT, Go.VE.clearO, Tryd.f20, tb20_42, spFmtV_q, spFmtV_A, spFmtV_pre, spFmtV_post, spDecI_q, spDecI_A, spDecI_pre, spDecI_post]); repeat' (first | apply And.intro | (intro _) | omega | assumption | with_reducible rfl))
  all_goals (first | ((simp only [mkB_size, List.size_toArray, List.length_cons, List.length_nil]; omega); done) | ((rw [hinv.2.2, join_pt (by simp), takeN hk hinv.1]; simp); done) | ((rw [hinv.2.2, takeA (l := ps) (i := k) (by omega), words_step hk0 (by omega)]; rfl); done) | ((rw [hinv.2.2, takeA (by omega)]; rfl); done) | ((have h9 := vPath_num hpre; omega); done) | (omega; done))
theorem sat_spec_formatPath : Sat Tryd.prog rt0 20 (wkIn spFmtV) := sat_in (sat_out sat_spec_formatPath_0)
end Go.Proofs.YthphndhiacikaaaDoor
end
section
set_option maxRecDepth 100000
set_option linter.unusedSimpArgs false
set_option linter.unusedVariables false
namespace Go.Proofs.YthphndhiacikaaaDoor
open Go Go.VE
def tb7 : Nat → Option VE.Spec := tabOf [(19, wkIn spVPath), (20, wkIn spFmtV)]
theorem tb7_19 : tb7 19 = some (wkIn spVPath) := rfl
theorem tb7_20 : tb7 20 = some (wkIn spFmtV) := rfl
theorem tb7_ok : TabOK Tryd.prog rt0 tb7 := (tabOf_cons (by kernel_rfl) sat_spec_validPath (tabOf_cons (by kernel_rfl) sat_spec_formatPath tabOf_nil))
set_option maxHeartbeats 4000000 in
theorem sat_spec_FormatPath_0 : Sat Tryd.prog rt0 7 (wkOut spFmt) := by
  refine fn_sat hm ttok (tab := tb7) tb7_ok Tryd.func7 (c := Tryd.f7.body.getD .skip) (by kernel_rfl) (ts := [.tmp 2]) (by kernel_rfl) Tryd.ntmps7 (sq := fun _ => true) (by kernel_rfl) ?_
  intro args ins pk hpre0 hpk
  obtain ⟨rfl, hpre0⟩ := hpre0
  obtain ⟨p, rfl, hpre, hdec⟩ := famPre_ex hpre0
  clear hpre0 hdec
  try simp only [spFmt_pre] at hpre
  replace hpk : pk + 0 ≤ pickLimit := hpk
  refine ⟨Nat.le_of_ble_eq_true rfl, ?_⟩
  simp (config := { maxSteps := 1000000 }) only [go_sem, ↓ifP_true, ↓ifP_false, ↓ifP_not, Nat.reduceLT, Nat.reduceAdd, Nat.reduceBEq, Nat.reduceSub, Nat.reduceLeDiff, Nat.reduceEqDiff, Nat.reduceMul, Int.reduceToNat, Int.reduceEq, Int.reduceLT, Int.reduceLE, Int.reduceAdd, Int.reduceSub, Int.reduceMul, reduceCtorEq, cond_true, cond_false, forall_eq', forall_eq, forall_const, implies_true, if_true, if_false, exists_eq_left', exists_eq', exists_eq, ne_eq, Tryd.f7, tb7_19, tb7_20, spFmt_q, spFmt_A, spFmt_pre, spFmt_post, spVPath_q, spVPath_A, spVPath_pre, spVPath_post, spFmtV_q, spFmtV_A, spFmtV_pre, spFmtV_post]
  repeat' (first | apply And.intro | (intro _) | omega | assumption | with_reducible rfl)
  all_goals (first | ((rw [fmtB, if_pos ‹vPath p = true›]); done) | ((rw [fmtB, if_neg (by simp [‹vPath p = false›])]; rfl); done) | (omega; done))
theorem sat_spec_FormatPath : Sat Tryd.prog rt0 7 (wkIn spFmt) := sat_in (sat_out sat_spec_FormatPath_0)
end Go.Proofs.YthphndhiacikaaaDoor
end
