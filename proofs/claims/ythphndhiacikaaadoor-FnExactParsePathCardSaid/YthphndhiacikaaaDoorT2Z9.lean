/- Contracts of functions of the program vectorraster, each proved for all states that fit its description. No conditions. -/
import Derived.Test.YthphndhiacikaaaDoorT2Z8
import Derived.Test.YthphndhiacikaaaDoorT2Z7
import Derived.Test.YthphndhiacikaaaDoorPO
import Derived.Test.YthphndhiacikaaaDoorPL
set_option maxRecDepth 100000
set_option linter.unusedSimpArgs false
set_option linter.unusedVariables false
namespace Go.Proofs.YthphndhiacikaaaDoor
open Go Go.VE
def spClipV_A : List Verb → List AV := fun l => [.c (.own 0 l.length false)]
def spClipV_B : List Verb → List Box := fun l => [⟨l.map vtC, 2, 43, true, false⟩]
def spClipV_d : List AV → List Box → Option (List Verb)
  | [.c (.own 0 _ false)], [⟨es, _, _, _, _⟩] => decAll vtCd es
  | _, _ => none
def spClipV_pre : List Verb → Prop := fun l => l.length ≤ 1000000000
def spClipV_post : List Verb → AV → List Box → Prop := fun l r bs => r = .c (.own 0 (l).length true) ∧ bs = [⟨(l).map vtC, 2, 43, true, false⟩]
def spClipV : VE.Spec := famSpecM spClipV_A spClipV_B spClipV_d spClipV_pre spClipV_post 0 false [true] false
theorem spClipV_q : spClipV.flat = false ∧ spClipV.mt = [true] ∧ spClipV.shut = false ∧ spClipV.cost = 0 ∧ (∀ a i, spClipV.pre a i = (famPreM spClipV_d spClipV_A spClipV_B spClipV_pre a i)) ∧ ∀ a i r b, spClipV.post a i r b = (famPostM spClipV_d spClipV_post a i r b) := ⟨rfl, rfl, rfl, rfl, fun _ _ => rfl, fun _ _ _ _ => rfl⟩
def tb34 : Nat → Option VE.Spec := tabOf []
theorem tb34_ok : TabOK Tryd.prog rt0 tb34 := tabOf_nil
set_option maxHeartbeats 4000000 in
theorem sat_slices_Clip_impl_Verb_impl_Verb_0 : Sat Tryd.prog rt0 34 spClipV := by
  refine fn_sat hm ttok (tab := tb34) tb34_ok Tryd.func34 (c := Tryd.f34.body.getD .skip) (by kernel_rfl) (ts := [.tmp 2]) (by kernel_rfl) Tryd.ntmps34 (sq := fun _ => true) (by kernel_rfl) ?_
  intro args ins pk hpre0 hpk
  obtain ⟨l, rfl, rfl, hpre, hdec⟩ := famPreM_ex hpre0
  clear hpre0 hdec
  try simp only [spClipV_pre] at hpre
  replace hpk : pk + 0 ≤ pickLimit := hpk
  refine ⟨Nat.le_of_ble_eq_true rfl, ?_⟩
  simp (config := { maxSteps := 1000000 }) only [go_sem, ↓ifP_true, ↓ifP_false, ↓ifP_not, Nat.reduceLT, Nat.reduceAdd, Nat.reduceBEq, Nat.reduceSub, Nat.reduceLeDiff, Nat.reduceEqDiff, Nat.reduceMul, Int.reduceToNat, Int.reduceEq, Int.reduceLT, Int.reduceLE, Int.reduceAdd, Int.reduceSub, Int.reduceMul, reduceCtorEq, cond_true, cond_false, forall_eq', forall_eq, forall_const, implies_true, if_true, if_false, exists_eq_left', exists_eq', exists_eq, ne_eq, Tryd.f34, spClipV_q, spClipV_A, spClipV_B, spClipV_d, spClipV_pre, spClipV_post]
  repeat' (first | apply And.intro | (intro _) | omega | assumption | with_reducible rfl)
  all_goals (first | (omega; done))
theorem sat_slices_Clip_impl_Verb_impl_Verb : Sat Tryd.prog rt0 34 (wkIn spClipV) := sat_in sat_slices_Clip_impl_Verb_impl_Verb_0
/-! The program's reading, step by step. -/
def pI (w : List ByteArray) (i : Int) : Option (List Verb) := parseI ((w.take i.toNat).map tx)
theorem pI_zero (w : List ByteArray) : pI w 0 = some [] := rfl
theorem pI_step {w : List ByteArray} {i : Int} {x : ByteArray} (h : w[i.toNat]? = some x) (h0 : 0 ≤ i) : pI w (i + 1) = stepI (pI w i) (tx x) := by
  unfold pI parseI
  rw [takeN h h0, List.map_append, List.foldl_append]
  rfl
theorem pI_end {w : List ByteArray} {i : Int} (h : (w.length : Int) ≤ i) : pI w i = parseI (w.map tx) := by
  unfold pI; rw [takeA h]
theorem pI_stop {w : List ByteArray} {i : Int} (h : pI w i = none) : parseI (w.map tx) = none := by
  have e : w.map tx = (w.take i.toNat).map tx ++ (w.drop i.toNat).map tx := by rw [← List.map_append, List.take_append_drop]
  rw [e]
  unfold parseI
  rw [List.foldl_append]
  have h' : List.foldl stepI (some []) (List.map tx (List.take i.toNat w)) = none := h
  rw [h', stepI_none]
theorem pI_letter {w : List ByteArray} {i : Int} {x : ByteArray} {o : List Verb} (hi : pI w i = some o) (h : w[i.toNat]? = some x) (h0 : 0 ≤ i) (hl : (x.size : Int) = 1) (hk : 0 ≤ Lib.index [77, 76, 81, 67, 90] (tx x)) : pI w (i + 1) = some (o ++ [⟨Lib.index [77, 76, 81, 67, 90] (tx x), []⟩]) := by
  rw [pI_step h h0, hi]
  show (if _ then _ else _) = _
  rw [if_pos ⟨by rw [tx_len]; omega, hk⟩]
  rfl
theorem pI_word {w : List ByteArray} {i : Int} {x : ByteArray} {o : List Verb} (hi : pI w i = some o) (h : w[i.toNat]? = some x) (h0 : 0 ≤ i) (hn : ¬ ((x.size : Int) = 1 ∧ 0 ≤ Lib.index [77, 76, 81, 67, 90] (tx x))) : pI w (i + 1) = (if (Lib.cut (tx x) [44]).2.2 = true then match Lib.atoiAll (Lib.cut (tx x) [44]).1, Lib.atoiAll (Lib.cut (tx x) [44]).2.1 with
      | .ok x, .ok y => if o = [] then none else some (addPt o ⟨x, y⟩)
      | _, _ => none
    else none) := by
  rw [pI_step h h0, hi]
  show (if _ then _ else _) = _
  rw [if_neg (fun e => hn ⟨by have := e.1; rw [tx_len] at this; omega, e.2⟩)]
  cases Lib.atoiAll (Lib.cut (tx x) [44]).1 <;> cases Lib.atoiAll (Lib.cut (tx x) [44]).2.1 <;> rfl
theorem pI_point {w : List ByteArray} {i : Int} {x : ByteArray} {o A : List Verb} {k : Int} {q : List Pt} {a b : Int} (hi : pI w i = some o) (h : w[i.toNat]? = some x) (h0 : 0 ≤ i) (hn : ¬ ((x.size : Int) = 1 ∧ 0 ≤ Lib.index [77, 76, 81, 67, 90] (tx x)))
    (hc : (Lib.cut (tx x) [44]).2.2 = true) (ha : Lib.atoiAll (Lib.cut (tx x) [44]).1 = .ok a) (hb : Lib.atoiAll (Lib.cut (tx x) [44]).2.1 = .ok b) (ho : o = A ++ [⟨k, q⟩]) : pI w (i + 1) = some (A ++ [⟨k, q ++ [⟨a, b⟩]⟩]) := by
  rw [pI_word hi h h0 hn, if_pos hc, ha, hb]
  simp only
  rw [if_neg (by rw [ho]; simp), ho, addPt_snoc]
theorem pI_no {w : List ByteArray} {i : Int} {x : ByteArray} {o : List Verb} (hi : pI w i = some o) (h : w[i.toNat]? = some x) (h0 : 0 ≤ i) (hn : ¬ ((x.size : Int) = 1 ∧ 0 ≤ Lib.index [77, 76, 81, 67, 90] (tx x)))
    (hc : (Lib.cut (tx x) [44]).2.2 = false ∨ (∀ n, Lib.atoiAll (Lib.cut (tx x) [44]).1 ≠ .ok n) ∨ (∀ n, Lib.atoiAll (Lib.cut (tx x) [44]).2.1 ≠ .ok n) ∨ o = []) : parseI (w.map tx) = none := by
  refine pI_stop (i := i + 1) ?_
  rw [pI_word hi h h0 hn]
  split
  · split
    · rename_i a b h1 h2
      rcases hc with hc | hc | hc | hc
      · have h9 := ‹(Lib.cut (tx x) [44]).2.2 = true›; rw [hc] at h9; cases h9
      · exact absurd h1 (hc a)
      · exact absurd h2 (hc b)
      · rw [if_pos hc]
    · rfl
  · rfl
theorem snocOr (o : List Verb) : o = [] ∨ ∃ A k q, o = A ++ [⟨k, q⟩] ∧ o[((o.length : Int) - 1).toNat]? = some ⟨k, q⟩ ∧ (∀ x, o.set (((o.length : Int) - 1).toNat) x = A ++ [x]) ∧ o.length = A.length + 1 ∧ nPts o = nPts A + q.length := by
  by_cases ho : o = []
  · exact .inl ho
  · refine .inr ?_
    obtain ⟨r, v, rfl⟩ : ∃ r v, o = r ++ [v] := ⟨o.dropLast, o.getLast ho, (List.dropLast_concat_getLast ho).symm⟩
    exact ⟨r, v.k, v.ps, rfl, last_get _ _, fun x => last_set _ _ x, by simp, by simp [nPts]⟩
theorem pp_stop {x : ByteArray} {L : List ByteArray} (hL : L.map tx = spl 32 (tx x)) (h0 : ¬ x = ⟨#[]⟩) (h : parseI (L.map tx) = none) : pp (tx x) = none := by
  rw [← ppI_eq]
  unfold ppI
  rw [if_neg (tx_ne h0), ← hL, h]
  split <;> rfl
theorem pp_done {x : ByteArray} {L : List ByteArray} (hL : L.map tx = spl 32 (tx x)) (h8 : ¬ (800 : Int) < x.size) (h0 : ¬ x = ⟨#[]⟩) {o : List Verb} {i : Int} (h : pI L i = some o) (hi : (L.length : Int) ≤ i) : pp (tx x) = if vPath o = true ∧ mkB (fmtL o) = x then some o else none := by
  rw [← ppI_eq]
  unfold ppI
  rw [pI_end hi] at h
  rw [if_neg (tx_ne h0), ← hL, h, if_neg (by rw [tx_len]; omega)]
  simp only
  have e : (mkB (fmtL o) = x) = (fmtL o = tx x) := propext ⟨fun e => by have := congrArg tx e; rw [tx_mk] at this; exact this, fun e => by rw [e, mk_tx]⟩
  simp only [e]
theorem spl_few {x : ByteArray} {L : List ByteArray} (hL : L.map tx = spl 32 (tx x)) (h8 : ¬ (800 : Int) < x.size) : L.length ≤ 801 ∧ ∀ y ∈ L, y.size ≤ 800 := by
  have h1 := spl_num 32 (tx x)
  rw [tx_len, ← hL, List.length_map] at h1
  refine ⟨by omega, fun y hy => ?_⟩
  have := spl_lens 32 (l := tx x) (x := tx y) (by rw [← hL]; exact List.mem_map_of_mem hy)
  rw [tx_len, tx_len] at this
  omega
theorem cut_few (w s : List UInt8) : (Lib.cut w s).1.length ≤ w.length ∧ (Lib.cut w s).2.1.length ≤ w.length := by
  unfold Lib.cut
  split
  · simp only [List.length_take, List.length_drop]; omega
  · simp
theorem tx_letters : tx ⟨#[77, 76, 81, 67, 90]⟩ = [77, 76, 81, 67, 90] := rfl
theorem tx_comma : tx ⟨#[44]⟩ = [44] := rfl
theorem nPts_nil0 : nPts [] = 0 := rfl
theorem fmtB_ok {o : List Verb} (h : vPath o = true) : fmtB o = mkB (fmtL o) := by unfold fmtB; rw [if_pos h]
theorem pp_yes {x : ByteArray} {L : List ByteArray} (hL : L.map tx = spl 32 (tx x)) (h8 : ¬ (800 : Int) < x.size) (h0 : ¬ x = ⟨#[]⟩) {o : List Verb} {i : Int} (h : pI L i = some o) (hi : ¬ i < (L.length : Int)) (hv : vPath o = true) (hf : fmtB o = x) : pp (tx x) = some o := by
  rw [pp_done hL h8 h0 h (by omega), if_pos ⟨hv, by rw [← fmtB_ok hv]; exact hf⟩]
theorem pp_nof {x : ByteArray} {L : List ByteArray} (hL : L.map tx = spl 32 (tx x)) (h8 : ¬ (800 : Int) < x.size) (h0 : ¬ x = ⟨#[]⟩) {o : List Verb} {i : Int} (h : pI L i = some o) (hi : ¬ i < (L.length : Int)) (hv : vPath o = true) (hf : ¬ fmtB o = x) : pp (tx x) = none := by
  rw [pp_done hL h8 h0 h (by omega), if_neg (fun e => hf (by rw [fmtB_ok hv]; exact e.2))]
theorem pp_nov {x : ByteArray} {L : List ByteArray} (hL : L.map tx = spl 32 (tx x)) (h8 : ¬ (800 : Int) < x.size) (h0 : ¬ x = ⟨#[]⟩) {o : List Verb} {i : Int} (h : pI L i = some o) (hi : ¬ i < (L.length : Int)) (hv : vPath o = false) : pp (tx x) = none := by
  rw [pp_done hL h8 h0 h (by omega), if_neg (by rw [hv]; simp)]
def tb13 : Nat → Option VE.Spec := tabOf [(29, wkIn spSplitW), (30, wkIn spIndexS), (31, wkIn spCutS), (32, wkIn spAtoi), (33, wkIn spCloneT), (12, wkIn spVPath), (9, wkIn spFmt), (34, wkIn spClipV)]
theorem tb13_29 : tb13 29 = some (wkIn spSplitW) := rfl
theorem tb13_30 : tb13 30 = some (wkIn spIndexS) := rfl
theorem tb13_31 : tb13 31 = some (wkIn spCutS) := rfl
theorem tb13_32 : tb13 32 = some (wkIn spAtoi) := rfl
theorem tb13_33 : tb13 33 = some (wkIn spCloneT) := rfl
theorem tb13_12 : tb13 12 = some (wkIn spVPath) := rfl
theorem tb13_9 : tb13 9 = some (wkIn spFmt) := rfl
theorem tb13_34 : tb13 34 = some (wkIn spClipV) := rfl
theorem tb13_ok : TabOK Tryd.prog rt0 tb13 := (tabOf_cons (by kernel_rfl) sat_strings_Split (tabOf_cons (by kernel_rfl) sat_strings_Index (tabOf_cons (by kernel_rfl) sat_strings_Cut (tabOf_cons (by kernel_rfl) sat_strconv_Atoi (tabOf_cons (by kernel_rfl) satT_impl_clone_impl_Point (tabOf_cons (by kernel_rfl) sat_impl_ValidPath (tabOf_cons (by kernel_rfl) sat_impl_FormatPath (tabOf_cons (by kernel_rfl) sat_slices_Clip_impl_Verb_impl_Verb tabOf_nil))))))))
set_option maxHeartbeats 4000000 in
theorem sat_impl_ParsePath_0 : Sat Tryd.prog rt0 13 (wkOut spPP) := by
  refine fn_sat hm ttok (tab := tb13) tb13_ok Tryd.func13 (c := Tryd.f13.body.getD .skip) (by kernel_rfl) (ts := [.tmp 2, .tmp 3]) (by kernel_rfl) Tryd.ntmps13 (sq := fun _ => true) (by kernel_rfl) ?_
  intro args ins pk hpre0 hpk
  obtain ⟨rfl, hpre0⟩ := hpre0
  obtain ⟨x, rfl, hpre, hdec⟩ := famPre_ex hpre0
  clear hpre0 hdec
  try simp only [spPP_pre] at hpre
  replace hpk : pk + 0 ≤ pickLimit := hpk
  refine ⟨Nat.le_of_ble_eq_true rfl, ?_⟩
  simp (config := { maxSteps := 1000000 }) only [go_sem, ↓ifP_true, ↓ifP_false, ↓ifP_not, Nat.reduceLT, Nat.reduceAdd, Nat.reduceBEq, Nat.reduceSub, Nat.reduceLeDiff, Nat.reduceEqDiff, Nat.reduceMul, Int.reduceToNat, Int.reduceEq, Int.reduceLT, Int.reduceLE, Int.reduceAdd, Int.reduceSub, Int.reduceMul, reduceCtorEq, cond_true, cond_false, forall_eq', forall_eq, forall_const, implies_true, if_true, if_false, exists_eq_left', exists_eq', exists_eq, ne_eq, Tryd.f13, tb13_29, tb13_30, tb13_31, tb13_32, tb13_33, tb13_12, tb13_9, tb13_34, spPP_q, spPP_A, spPP_pre, spPP_post, spSplitW_q, spSplitW_A, spSplitW_pre, spSplitW_post, spIndexS_q, spIndexS_A, spIndexS_pre, spIndexS_post, spCutS_q, spCutS_A, spCutS_pre, spCutS_post, spAtoi_q, spAtoi_A, spAtoi_pre, spAtoi_post, spCloneT_q, spCloneT_A, spCloneT_pre, spCloneT_post, spVPath_q, spVPath_A, spVPath_pre, spVPath_post, spFmt_q, spFmt_A, spFmt_pre, spFmt_post, spClipV_q, spClipV_A, spClipV_B, spClipV_d, spClipV_pre, spClipV_post]
  repeat' (first | apply And.intro | (intro _) | omega | assumption | with_reducible rfl)
  any_goals
    rename_i L hL
    have hF := spl_few hL (by assumption)
    refine loopS (α := (List Verb) × Int) false [1, 2, 3, 4, 5, 6, 7, 8, 9, 10, 11, 12, 13, 14, 15, 16, 17, 18, 19, 20, 21, 24, 25, 26, 27, 28, 29, 30, 31, 32, 33, 34, 35, 36, 37, 38, 39, 40, 41, 42, 43, 44, 45, 46, 47, 48, 49, 50, 51, 52, 53, 54, 55, 56, 57, 58, 59, 60, 61, 62, 63, 64, 65, 66, 67, 68, 69, 70, 71, 72, 73, 74, 75, 76, 77, 78, 79, 80, 81, 82, 83, 84, 85, 86, 87, 88, 89, 90, 91, 100] (fun σ => [gId (σ.get 4)]) (fun σ x => [(4, .c (.own (gId (σ.get 4)) (x.1).length false)), (24, I x.2)]) (fun σ x => [(gId (σ.get 4), some ⟨(x.1).map vtC, 2, 43, true, false⟩)]) (fun (o, i) => 0) (fun σ => (gL vtCd σ (σ.get 4), gI (σ.get 24))) (fun σ τ => [(gId (σ.get 4), gId (τ.get 4))]) (fun (o, i) => (0 ≤ i ∧ i ≤ L.length) ∧ ((o.length : Int) ≤ i ∧ (nPts o : Int) ≤ i) ∧ pI L i = some o) (fun (o, i) => (L.length - i).toNat) ⟨by (simp (config := { maxSteps := 1000000 }) only [go_sem, ↓ifP_true, ↓ifP_false, ↓ifP_not, Nat.reduceLT, Nat.reduceAdd, Nat.reduceBEq, Nat.reduceSub, Nat.reduceLeDiff, Nat.reduceEqDiff, Nat.reduceMul, Int.reduceToNat, Int.reduceEq, Int.reduceLT, Int.reduceLE, Int.reduceAdd, Int.reduceSub, Int.reduceMul, reduceCtorEq, cond_true, cond_false, forall_eq', forall_eq, forall_const, implies_true, if_true, if_false, exists_eq_left', exists_eq', exists_eq, ne_eq, Tryd.f13, tb13_29, tb13_30, tb13_31, tb13_32, tb13_33, tb13_12, tb13_9, tb13_34, spPP_q, spPP_A, spPP_pre, spPP_post, spSplitW_q, spSplitW_A, spSplitW_pre, spSplitW_post, spIndexS_q, spIndexS_A, spIndexS_pre, spIndexS_post, spCutS_q, spCutS_A, spCutS_pre, spCutS_post, spAtoi_q, spAtoi_A, spAtoi_pre, spAtoi_post, spCloneT_q, spCloneT_A, spCloneT_pre, spCloneT_post, spVPath_q, spVPath_A, spVPath_pre, spVPath_post, spFmt_q, spFmt_A, spFmt_pre, spFmt_post, spClipV_q, spClipV_A, spClipV_B, spClipV_d, spClipV_pre, spClipV_post, tx_mk, tx_letters, tx_comma, nPts_nil0]; (repeat' (first | apply And.intro | (intro _) | omega | assumption | with_reducible rfl)); all_goals (first | rfl | skip)), ?_⟩
    rintro ⟨o, i⟩ hinv
    try dsimp only at hinv
    rcases elemAt L i (by omega) with ⟨hlt, w, hk⟩ | hlt
    all_goals (first | ((have hlt2 := of_eq_true hlt); (have hW := hF.2 w (List.mem_of_getElem? hk)); (rcases snocOr o with ho | ⟨A, k0, q, ho, hO, hset, hA, hP⟩); all_goals (first | simp (config := { maxSteps := 1000000 }) only [go_sem, ↓ifP_true, ↓ifP_false, ↓ifP_not, Nat.reduceLT, Nat.reduceAdd, Nat.reduceBEq, Nat.reduceSub, Nat.reduceLeDiff, Nat.reduceEqDiff, Nat.reduceMul, Int.reduceToNat, Int.reduceEq, Int.reduceLT, Int.reduceLE, Int.reduceAdd, Int.reduceSub, Int.reduceMul, reduceCtorEq, cond_true, cond_false, forall_eq', forall_eq, forall_const, implies_true, if_true, if_false, exists_eq_left', exists_eq', exists_eq, ne_eq, Tryd.f13, tb13_29, tb13_30, tb13_31, tb13_32, tb13_33, tb13_12, tb13_9, tb13_34, spPP_q, spPP_A, spPP_pre, spPP_post, spSplitW_q, spSplitW_A, spSplitW_pre, spSplitW_post, spIndexS_q, spIndexS_A, spIndexS_pre, spIndexS_post, spCutS_q, spCutS_A, spCutS_pre, spCutS_post, spAtoi_q, spAtoi_A, spAtoi_pre, spAtoi_post, spCloneT_q, spCloneT_A, spCloneT_pre, spCloneT_post, spVPath_q, spVPath_A, spVPath_pre, spVPath_post, spFmt_q, spFmt_A, spFmt_pre, spFmt_post, spClipV_q, spClipV_A, spClipV_B, spClipV_d, spClipV_pre, spClipV_post, tx_mk, tx_letters, tx_comma, nPts_nil0, hlt, hk, hO] | simp (config := { maxSteps := 1000000 }) only [go_sem, ↓ifP_true, ↓ifP_false, ↓ifP_not, Nat.reduceLT, Nat.reduceAdd, Nat.reduceBEq, Nat.reduceSub, Nat.reduceLeDiff, Nat.reduceEqDiff, Nat.reduceMul, Int.reduceToNat, Int.reduceEq, Int.reduceLT, Int.reduceLE, Int.reduceAdd, Int.reduceSub, Int.reduceMul, reduceCtorEq, cond_true, cond_false, forall_eq', forall_eq, forall_const, implies_true, if_true, if_false, exists_eq_left', exists_eq', exists_eq, ne_eq, Tryd.f13, tb13_29, tb13_30, tb13_31, tb13_32, tb13_33, tb13_12, tb13_9, tb13_34, spPP_q, spPP_A, spPP_pre, spPP_post, spSplitW_q, spSplitW_A, spSplitW_pre, spSplitW_post, spIndexS_q, spIndexS_A, spIndexS_pre, spIndexS_post, spCutS_q, spCutS_A, spCutS_pre, spCutS_post, spAtoi_q, spAtoi_A, spAtoi_pre, spAtoi_post, spCloneT_q, spCloneT_A, spCloneT_pre, spCloneT_post, spVPath_q, spVPath_A, spVPath_pre, spVPath_post, spFmt_q, spFmt_A, spFmt_pre, spFmt_post, spClipV_q, spClipV_A, spClipV_B, spClipV_d, spClipV_pre, spClipV_post, tx_mk, tx_letters, tx_comma, nPts_nil0, hlt, hk, ho] | simp (config := { maxSteps := 1000000 }) only [go_sem, ↓ifP_true, ↓ifP_false, ↓ifP_not, Nat.reduceLT, Nat.reduceAdd, Nat.reduceBEq, Nat.reduceSub, Nat.reduceLeDiff, Nat.reduceEqDiff, Nat.reduceMul, Int.reduceToNat, Int.reduceEq, Int.reduceLT, Int.reduceLE, Int.reduceAdd, Int.reduceSub, Int.reduceMul, reduceCtorEq, cond_true, cond_false, forall_eq', forall_eq, forall_const, implies_true, if_true, if_false, exists_eq_left', exists_eq', exists_eq, ne_eq, Tryd.f13, tb13_29, tb13_30, tb13_31, tb13_32, tb13_33, tb13_12, tb13_9, tb13_34, spPP_q, spPP_A, spPP_pre, spPP_post, spSplitW_q, spSplitW_A, spSplitW_pre, spSplitW_post, spIndexS_q, spIndexS_A, spIndexS_pre, spIndexS_post, spCutS_q, spCutS_A, spCutS_pre, spCutS_post, spAtoi_q, spAtoi_A, spAtoi_pre, spAtoi_post, spCloneT_q, spCloneT_A, spCloneT_pre, spCloneT_post, spVPath_q, spVPath_A, spVPath_pre, spVPath_post, spFmt_q, spFmt_A, spFmt_pre, spFmt_post, spClipV_q, spClipV_A, spClipV_B, spClipV_d, spClipV_pre, spClipV_post, tx_mk, tx_letters, tx_comma, nPts_nil0, hlt, hk])) | (have hlt2 := of_eq_false hlt; (first | simp (config := { maxSteps := 1000000 }) only [go_sem, ↓ifP_true, ↓ifP_false, ↓ifP_not, Nat.reduceLT, Nat.reduceAdd, Nat.reduceBEq, Nat.reduceSub, Nat.reduceLeDiff, Nat.reduceEqDiff, Nat.reduceMul, Int.reduceToNat, Int.reduceEq, Int.reduceLT, Int.reduceLE, Int.reduceAdd, Int.reduceSub, Int.reduceMul, reduceCtorEq, cond_true, cond_false, forall_eq', forall_eq, forall_const, implies_true, if_true, if_false, exists_eq_left', exists_eq', exists_eq, ne_eq, Tryd.f13, tb13_29, tb13_30, tb13_31, tb13_32, tb13_33, tb13_12, tb13_9, tb13_34, spPP_q, spPP_A, spPP_pre, spPP_post, spSplitW_q, spSplitW_A, spSplitW_pre, spSplitW_post, spIndexS_q, spIndexS_A, spIndexS_pre, spIndexS_post, spCutS_q, spCutS_A, spCutS_pre, spCutS_post, spAtoi_q, spAtoi_A, spAtoi_pre, spAtoi_post, spCloneT_q, spCloneT_A, spCloneT_pre, spCloneT_post, spVPath_q, spVPath_A, spVPath_pre, spVPath_post, spFmt_q, spFmt_A, spFmt_pre, spFmt_post, spClipV_q, spClipV_A, spClipV_B, spClipV_d, spClipV_pre, spClipV_post, tx_mk, tx_letters, tx_comma, nPts_nil0, hlt, hO] | simp (config := { maxSteps := 1000000 }) only [go_sem, ↓ifP_true, ↓ifP_false, ↓ifP_not, Nat.reduceLT, Nat.reduceAdd, Nat.reduceBEq, Nat.reduceSub, Nat.reduceLeDiff, Nat.reduceEqDiff, Nat.reduceMul, Int.reduceToNat, Int.reduceEq, Int.reduceLT, Int.reduceLE, Int.reduceAdd, Int.reduceSub, Int.reduceMul, reduceCtorEq, cond_true, cond_false, forall_eq', forall_eq, forall_const, implies_true, if_true, if_false, exists_eq_left', exists_eq', exists_eq, ne_eq, Tryd.f13, tb13_29, tb13_30, tb13_31, tb13_32, tb13_33, tb13_12, tb13_9, tb13_34, spPP_q, spPP_A, spPP_pre, spPP_post, spSplitW_q, spSplitW_A, spSplitW_pre, spSplitW_post, spIndexS_q, spIndexS_A, spIndexS_pre, spIndexS_post, spCutS_q, spCutS_A, spCutS_pre, spCutS_post, spAtoi_q, spAtoi_A, spAtoi_pre, spAtoi_post, spCloneT_q, spCloneT_A, spCloneT_pre, spCloneT_post, spVPath_q, spVPath_A, spVPath_pre, spVPath_post, spFmt_q, spFmt_A, spFmt_pre, spFmt_post, spClipV_q, spClipV_A, spClipV_B, spClipV_d, spClipV_pre, spClipV_post, tx_mk, tx_letters, tx_comma, nPts_nil0, hlt, ho] | simp (config := { maxSteps := 1000000 }) only [go_sem, ↓ifP_true, ↓ifP_false, ↓ifP_not, Nat.reduceLT, Nat.reduceAdd, Nat.reduceBEq, Nat.reduceSub, Nat.reduceLeDiff, Nat.reduceEqDiff, Nat.reduceMul, Int.reduceToNat, Int.reduceEq, Int.reduceLT, Int.reduceLE, Int.reduceAdd, Int.reduceSub, Int.reduceMul, reduceCtorEq, cond_true, cond_false, forall_eq', forall_eq, forall_const, implies_true, if_true, if_false, exists_eq_left', exists_eq', exists_eq, ne_eq, Tryd.f13, tb13_29, tb13_30, tb13_31, tb13_32, tb13_33, tb13_12, tb13_9, tb13_34, spPP_q, spPP_A, spPP_pre, spPP_post, spSplitW_q, spSplitW_A, spSplitW_pre, spSplitW_post, spIndexS_q, spIndexS_A, spIndexS_pre, spIndexS_post, spCutS_q, spCutS_A, spCutS_pre, spCutS_post, spAtoi_q, spAtoi_A, spAtoi_pre, spAtoi_post, spCloneT_q, spCloneT_A, spCloneT_pre, spCloneT_post, spVPath_q, spVPath_A, spVPath_pre, spVPath_post, spFmt_q, spFmt_A, spFmt_pre, spFmt_post, spClipV_q, spClipV_A, spClipV_B, spClipV_d, spClipV_pre, spClipV_post, tx_mk, tx_letters, tx_comma, nPts_nil0, hlt])))
    all_goals
      repeat' (first | apply And.intro | (intro _) | omega | assumption | with_reducible rfl)
  
  all_goals (first | (omega; done) | ((simp only [nPts, List.map_nil, List.sum_nil]; omega); done) | ((simp only [pp_long ‹_›]; rfl); done) | ((simp only [pp_mt ‹_›]; rfl); done) | (decide; done) | ((simp only [nPts, List.map_cons, List.length_nil, List.map_nil, List.sum_cons, List.sum_nil]; omega); done) | ((rw [nPts_snoc]; simp only [List.length_nil]; omega); done) | ((have h9 := pI_letter hinv.2.2 hk hinv.1.1 ‹_› ‹_›; rw [ho] at h9; exact h9); done) | (exact pI_letter hinv.2.2 hk hinv.1.1 ‹_› ‹_›; done) | ((rw [mkB_size]; have h9 := cut_few (tx w) [44]; rw [tx_len] at h9; omega); done) | ((rw [pp_stop hL ‹_› (pI_no hinv.2.2 hk hinv.1.1 (fun hh => by omega) (.inl ‹_›))]; rfl); done) | ((rw [pp_stop hL ‹_› (pI_no hinv.2.2 hk hinv.1.1 (fun hh => by omega) (.inr (.inl ‹_›)))]; rfl); done) | ((rw [pp_stop hL ‹_› (pI_no hinv.2.2 hk hinv.1.1 (fun hh => by omega) (.inr (.inr (.inl ‹_›))))]; rfl); done) | ((rw [pp_stop hL ‹_› (pI_no hinv.2.2 hk hinv.1.1 (fun hh => by omega) (.inr (.inr (.inr ho))))]; rfl); done) | ((rw [hset]; exact pI_point hinv.2.2 hk hinv.1.1 (fun hh => by omega) ‹_› ‹_› ‹_› ho); done) | ((rw [hset, nPts_snoc]; simp only [List.length_append, List.length_singleton]; omega); done) | ((rw [List.map_set]; congr 1; simp [vtC, ptC]); done) | ((rw [pp_yes hL ‹_› ‹_› hinv.2.2 hlt2 ‹_› ‹_›]; rfl); done) | ((rw [pp_nof hL ‹_› ‹_› hinv.2.2 hlt2 ‹_› ‹_›]; rfl); done) | ((rw [pp_nov hL ‹_› ‹_› hinv.2.2 hlt2 ‹_›]; rfl); done) | (skip; done))
theorem sat_impl_ParsePath : Sat Tryd.prog rt0 13 (wkIn spPP) := sat_in (sat_out sat_impl_ParsePath_0)
end Go.Proofs.YthphndhiacikaaaDoor
