/- Contracts of functions of the program vectorraster, each proved for all states that fit its description. -/
import Derived.Test.YtofelomoieamoaaC7
set_option maxRecDepth 100000
set_option linter.unusedSimpArgs false
set_option linter.unusedVariables false
namespace Go.Proofs.Ytofelomoieamoaa
open Go Go.VE
def sumR (o : List Run) : Int := (o.map (·.m)).sum
theorem sumR_app (a b : List Run) : sumR (a ++ b) = sumR a + sumR b := by simp [sumR]
theorem addRun_sum (o : List Run) (c : Col) : sumR (addRun o c) = sumR o + 1 := by
  unfold addRun
  cases ho : o.getLast? with
  | none => rw [List.getLast?_eq_none_iff.1 ho]; rfl
  | some k =>
    obtain ⟨o', rfl⟩ := List.getLast?_eq_some_iff.1 ho
    by_cases e : k.c = c
    · simp only [e, if_true, List.dropLast_concat, sumR_app]; simp [sumR]; omega
    · simp only [e, if_false, sumR_app]; simp [sumR]
theorem runs_sum (l : List Col) : sumR (runs l) = l.length := by
  have h : ∀ (l : List Col) (o : List Run), sumR (l.foldl addRun o) = sumR o + l.length := by
    intro l
    induction l with
    | nil => simp
    | cons c l ih => intro o; rw [List.foldl_cons, ih, addRun_sum]; simp; omega
  simpa [runs, sumR] using h l []
theorem sumR_nonneg {o : List Run} (h : ∀ k ∈ o, 1 ≤ k.m) : (o.length : Int) ≤ sumR o := by
  induction o with
  | nil => simp [sumR]
  | cons k o ih =>
    have h1 := ih fun x hx => h x (List.mem_cons_of_mem _ hx)
    have h2 := h k List.mem_cons_self
    simp only [sumR, List.map_cons, List.sum_cons, List.length_cons] at *
    omega
theorem sumR_take {o : List Run} (h : ∀ k ∈ o, 1 ≤ k.m) (i : Nat) : 0 ≤ sumR (o.take i) ∧ sumR (o.take i) ≤ sumR o := by
  have h1 := sumR_nonneg fun k (hk : k ∈ o.take i) => h k (List.mem_of_mem_take hk)
  have h2 := sumR_nonneg fun k (hk : k ∈ o.drop i) => h k (List.mem_of_mem_drop hk)
  have h3 := sumR_app (o.take i) (o.drop i)
  rw [List.take_append_drop] at h3
  omega
theorem sumR_step {o : List Run} {i : Nat} {k : Run} (h : o[i]? = some k) : sumR (o.take (i + 1)) = sumR (o.take i) + k.m := by
  rw [List.take_add_one, h, sumR_app]
  simp [sumR]
def Adj (l : List Col) : Prop := ∀ i a b, l[i]? = some a → l[i + 1]? = some b → a ≠ b
theorem adj_snoc {l : List Col} {c : Col} (h : Adj l) (hc : ∀ k, l.getLast? = some k → k ≠ c) : Adj (l ++ [c]) := by
  intro i a b h1 h2
  by_cases hi : i + 1 < l.length
  · rw [List.getElem?_append_left (by omega)] at h1
    rw [List.getElem?_append_left hi] at h2
    exact h i a b h1 h2
  · have hl := (List.getElem?_eq_some_iff.1 h2).1
    simp only [List.length_append, List.length_cons, List.length_nil] at hl
    have hi' : i + 1 = l.length := by omega
    rw [hi', List.getElem?_concat_length] at h2
    cases h2
    rw [List.getElem?_append_left (by omega)] at h1
    exact hc a (by rw [List.getLast?_eq_getElem?]; rw [show l.length - 1 = i by omega]; exact h1)
theorem addRun_adj (o : List Run) (c : Col) (h : Adj (o.map (·.c))) : Adj ((addRun o c).map (·.c)) := by
  unfold addRun
  cases ho : o.getLast? with
  | none =>
    intro i a b h1 h2
    simp at h2
  | some k =>
    obtain ⟨o', rfl⟩ := List.getLast?_eq_some_iff.1 ho
    by_cases e : k.c = c
    · simp only [e, if_true, List.dropLast_concat]
      rw [List.map_append] at h ⊢
      simpa [e] using h
    · simp only [e, if_false]
      rw [List.map_append]
      refine adj_snoc h fun x hx => ?_
      simp at hx
      rw [← hx]
      exact e
theorem runs_adj (l : List Col) : Adj ((runs l).map (·.c)) := by
  have h : ∀ (l : List Col) (o : List Run), Adj (o.map (·.c)) → Adj ((l.foldl addRun o).map (·.c)) := by
    intro l
    induction l with
    | nil => intro o h; exact h
    | cons c l ih => intro o h; exact ih _ (addRun_adj o c h)
  exact h l [] (by intro i a b h1; simp at h1)
theorem runsF_len (f : Frm) : (runsF f).length ≤ f.px.length := by
  unfold runsF
  split
  · exact runs_len _
  · simp
theorem vFrm_len {f : Frm} (h : vFrm f = true) : (f.px.length : Int) = f.w * f.h := by
  unfold vFrm at h
  simp only [Bool.and_eq_true, decide_eq_true_eq] at h
  exact h.1.2
def dR2 : List AV → Option (Bool × Bool × List Run × List Run)
  | [.c (.sl s a), .c (.sl t b)] => match decAll runCd a, decAll runCd b with
    | some a, some b => some (s, t, a, b)
    | _, _ => none
  | _ => none
def spEqR_A : Bool × Bool × List Run × List Run → List AV := fun x => [.c (.sl x.1 (x.2.2.1.map runC)), .c (.sl x.2.1 (x.2.2.2.map runC))]
def spEqR_pre : Bool × Bool × List Run × List Run → Prop := fun x => x.2.2.1.length ≤ 1000000000 ∧ x.2.2.2.length ≤ 1000000000
def spEqR_post : Bool × Bool × List Run × List Run → AV → List Box → Prop := fun x r bs => r = B (decide (x.2.2.1 = x.2.2.2)) ∧ bs = []
def spEqR : VE.Spec := famSpec spEqR_A dR2 spEqR_pre spEqR_post 0 true
theorem spEqR_q : spEqR.flat = true ∧ spEqR.mt = [] ∧ spEqR.shut = false ∧ spEqR.cost = 0 ∧ (∀ a i, spEqR.pre a i = (i = [] ∧ famPre dR2 spEqR_A spEqR_pre a)) ∧ ∀ a i r b, spEqR.post a i r b = (famPost dR2 spEqR_post a r b) := ⟨rfl, rfl, rfl, rfl, fun _ _ => rfl, fun _ _ _ _ => rfl⟩
def tb24 : Nat → Option VE.Spec := tabOf []
theorem tb24_ok : TabOK Try.prog rt0 tb24 := tabOf_nil
set_option maxHeartbeats 4000000 in
theorem sat_laws_equalRuns : Sat Try.prog rt0 24 spEqR := by
  refine fn_sat hm ttok (tab := tb24) tb24_ok Try.func24 (c := Try.f24.body.getD .skip) (by kernel_rfl) (ts := [.tmp 4]) (by kernel_rfl) Try.ntmps24 (sq := fun _ => true) (by kernel_rfl) ?_
  intro args ins pk hpre0 hpk
  obtain ⟨rfl, hpre0⟩ := hpre0
  obtain ⟨⟨s, t, a, b⟩, rfl, hpre, hdec⟩ := famPre_ex hpre0
  clear hpre0 hdec
  try simp only [spEqR_pre] at hpre
  replace hpk : pk + 0 ≤ pickLimit := hpk
  refine ⟨Nat.le_of_ble_eq_true rfl, ?_⟩
  simp (config := { maxSteps := 1000000 }) only [ty3, ty4, ty5, ty22, ty25, ty27, ty33, ty35, ty40, ty44, ty46, ty53, ty57, ty63, ty77, ty80, ty82, ty84, ty86, ty90, ty95, ty98, Try.f24, spEqR_q, spEqR_A, spEqR_pre, spEqR_post, Hold_snd, Hold_eqand, decInts, intC_all, intC_len, pureV_ints, byC_all, byC_len, dI1, dI2, dI3, dB1, dROne, dRdr, dRI, decInt, decAll, intC, List.getElem?_map, Option.map_eq_some_iff, Hold_pair3, colC_ds, colC_len, colC_take, colC_takeA, colC_dropA, colC_drop, colC_ints, colC_ieq, colC_all, colC_pure, colC_strip, colC_seal, colC_ren, colC_exp, colC_map, colC_dec, colC_gat, colC_rok, colC_row, colC_eok, colC_fok, colC_sok, colC_okR, colC_okC, colA, colAd, runC_ds, runC_len, runC_take, runC_takeA, runC_dropA, runC_drop, runC_ints, runC_ieq, runC_all, runC_pure, runC_strip, runC_seal, runC_ren, runC_exp, runC_map, runC_dec, runC_gat, runC_rok, runC_row, runC_eok, runC_fok, runC_sok, runC_okR, runC_okC, runC_fold2, runC_dn, runC_t4, runC_d4, runA, runAd, repl_col, decFrm, frmA, dPB, pbIns, dColA, dColsF, dF1, dF2, dC2, Frm.mk.injEq, dI4, dRI2, dBy2, decU8s, dLI2, dSl, dR2, runW_skip, runW_region, runW_draw, runW_seq, runW_cond, runW_ret, runW_exit, runW_block, seqK, blockK, condW, opsW_nil, opsW_plain, opsW_guard, opW_lit, dstOK, dwS, opS_move, opS_assign, opS_pick, opS_alloc, opS_box, opS_build, opS_buildSlice, opS_load, opS_store, opS_nilCheck, opS_binOp, opS_unOp, opS_convert, opS_makeSlice, opS_fieldAddr, opS_field, opS_indexAddr, opS_index, opS_extract, opS_slice, opS_len, opS_append, opS_copy, opS_min, opS_max, opS_call, opS_callv, opS_makeFunc, opS_makeMap, opS_mapUpdate, isNilS, makeMapS, mapUpdS, updM, intsOf, assignS, pickS, allocS, nilS, minS, lenS, appendS, sliceS, boundOf, copyS, copyS.srcLen, makeFuncS, callV, callS, passIds, gather, FUEL, memN, unfz, VE.isVar, hkey, idxOf, renC0, renC, renA1, renA, renB, renOk0, renOk0s, renOk, renOks, mtCells, lent, passA, passOkA, boxN, passBs, passOkB, disjN, distN, mapC0, mapC, mapA1, mapA, mapB, backId, addOut, baseS, setPk, afterS, sealC, sealOk, sealOks, sealPs, rowIds, rowIdsL, VE.freeze, setId, strip, loaded, okC, okCs, okR, okRs, Res.app_mk1, Res.app_mkE, Res.app_no, St.ev, St.get, lkE, nthL, St.put, St.box, lkB, St.setBox, newBox, cellsOf, fieldAddrS, loadS, mkAV, binS, arith, unS, ofConst, TK.agg, boxS, elemSz, ieq, ints, over, fillC, partsOK, lensAll, idsAre, constC, buildS, buildSliceS, storeS, makeSliceS, indexAddrS, indexS, extractS, convertS, srcOf, fieldS, InR, guardB, guardW, ttOf, entSt, envOf, expHp, retQ, retW, retE, resAV, rvS, rvOk, xids, numsOf, varCells, allCells, catCells, expA, expA1, expC, expC0, expOks, expOk, expOk0, expOk0s, flatOks, flatOk, flatOk0, flatOk0s, expBs, expBoxes, expB, famSpec, famPre, famPost, famSpecS, famSpecM, famPreM, famPostM, Hold_ex, Hold_and, Hold_eq, Hold_eq', Hold_pair, Hold_pair3, Hold_or, ↓ifP_true, ↓ifP_false, ↓ifP_not, ifP_decide, ifP_beq, ifP, Nat.reduceLT, Nat.reduceAdd, Nat.reduceBEq, Nat.reduceSub, Nat.reduceLeDiff, Nat.reduceEqDiff, Nat.reduceMul, cond_true, cond_false, true_and, and_true, List.getElem?_cons_zero, List.length_cons, List.length_nil, Nat.zero_add, List.drop_zero, List.take_succ_cons, List.take_zero, List.drop_succ_cons, Option.some.injEq, Option.getD_some, Option.getD_none, forall_eq', forall_eq, decide_eq_true_eq, decide_eq_false_iff_not, Bool.not_eq_true', List.map_cons, List.map_nil, List.length_map, Option.map_some, Option.map_none, Option.bind_some, Option.bind_none, Bool.not_true, Bool.not_false, Bool.true_eq_false, Bool.false_eq_true, forall_const, false_implies, implies_true, not_true_eq_false, not_false_eq_true, reduceCtorEq, Nat.zero_le, Nat.le_refl, Nat.add_zero, true_implies, or_true, true_or, or_false, false_or, and_false, false_and, decide_true, decide_false, Bool.and_true, Bool.true_and, Bool.and_false, Bool.false_and, if_true, if_false, Prod.forall, Prod.exists, and_imp, List.cons.injEq, AV.c.injEq, AV.agg.injEq, C.v.injEq, C.sl.injEq, Value.int.injEq, Value.bool.injEq, exists_eq_left', exists_eq', exists_eq, and_self, and_assoc, Prod.mk.injEq, Nat.mul_one, List.cons_append, List.nil_append, List.set_cons_zero, List.set_cons_succ, ne_eq, Nat.one_ne_zero, List.drop_nil, List.take_nil, List.getElem?_cons_succ, List.getElem?_nil, List.length_replicate, List.append_nil, Bool.and_self, Bool.or_true, Bool.true_or, Bool.or_false, Bool.false_or, Bool.or_self, BEq.rfl, beq_self_eq_true, Nat.lt_add_one, Nat.zero_lt_succ, Nat.not_lt_zero, Option.isSome_some, Option.isSome_none, List.all_nil, List.all_cons, List.flatten_cons, List.flatten_nil, List.isEmpty_nil, List.contains_nil, List.flatMap_cons, List.flatMap_nil, List.length_append]
  refine ⟨fun hl => ?_, fun hl => ?_⟩
  · refine loopI (α := Nat) (fun i => ⟨26, 0, [(5, I i), (0, .c (.sl s (a.map runC))), (1, .c (.sl t (b.map runC)))], [], 1000, pk⟩) (fun i => i ≤ a.length ∧ a.take i = b.take i) (fun i => a.length - i) 0 ⟨Nat.zero_le _, by simp⟩
      (ent_of [] (by simp only [leEnv, leA, leA1, leAs, leCs, leC, leC0, leC0s, slOf, leHp, leB, leEs, rho, keyB, keptB, injR, preR, St.get, St.box, lkE, lkB, Nat.reduceBEq, cond_true, cond_false, Option.getD_some, true_and, and_true, forall_const, implies_true, Bool.and_true, Bool.true_and, Bool.and_false, Bool.not_false, Bool.not_true, Bool.false_or, Bool.or_false, BEq.rfl, beq_self_eq_true, List.all_nil, List.all_cons, Bool.or_true, reduceCtorEq, Nat.reduceLT, false_implies, and_self, Nat.reduceSub, Nat.reduceEqDiff, Bool.false_and, Bool.false_eq_true, true_implies, Nat.reduceAdd, imp_self, C.v.injEq, Value.int.injEq, Value.bool.injEq, forall_const, List.length_append, List.length_cons, List.length_nil, Nat.zero_add]; try omega) trivial rfl rfl (by dsimp only; omega)) ?_
    rintro i ⟨hi, hab⟩
    simp (config := { maxSteps := 1000000 }) only [ty3, ty4, ty5, ty22, ty25, ty27, ty33, ty35, ty40, ty44, ty46, ty53, ty57, ty63, ty77, ty80, ty82, ty84, ty86, ty90, ty95, ty98, Try.f24, spEqR_q, spEqR_A, spEqR_pre, spEqR_post, Hold_snd, Hold_eqand, decInts, intC_all, intC_len, pureV_ints, byC_all, byC_len, dI1, dI2, dI3, dB1, dROne, dRdr, dRI, decInt, decAll, intC, List.getElem?_map, Option.map_eq_some_iff, Hold_pair3, colC_ds, colC_len, colC_take, colC_takeA, colC_dropA, colC_drop, colC_ints, colC_ieq, colC_all, colC_pure, colC_strip, colC_seal, colC_ren, colC_exp, colC_map, colC_dec, colC_gat, colC_rok, colC_row, colC_eok, colC_fok, colC_sok, colC_okR, colC_okC, colA, colAd, runC_ds, runC_len, runC_take, runC_takeA, runC_dropA, runC_drop, runC_ints, runC_ieq, runC_all, runC_pure, runC_strip, runC_seal, runC_ren, runC_exp, runC_map, runC_dec, runC_gat, runC_rok, runC_row, runC_eok, runC_fok, runC_sok, runC_okR, runC_okC, runC_fold2, runC_dn, runC_t4, runC_d4, runA, runAd, repl_col, decFrm, frmA, dPB, pbIns, dColA, dColsF, dF1, dF2, dC2, Frm.mk.injEq, dI4, dRI2, dBy2, decU8s, dLI2, dSl, dR2, runW_skip, runW_region, runW_draw, runW_seq, runW_cond, runW_ret, runW_exit, runW_block, seqK, blockK, condW, opsW_nil, opsW_plain, opsW_guard, opW_lit, dstOK, dwS, opS_move, opS_assign, opS_pick, opS_alloc, opS_box, opS_build, opS_buildSlice, opS_load, opS_store, opS_nilCheck, opS_binOp, opS_unOp, opS_convert, opS_makeSlice, opS_fieldAddr, opS_field, opS_indexAddr, opS_index, opS_extract, opS_slice, opS_len, opS_append, opS_copy, opS_min, opS_max, opS_call, opS_callv, opS_makeFunc, opS_makeMap, opS_mapUpdate, isNilS, makeMapS, mapUpdS, updM, intsOf, assignS, pickS, allocS, nilS, minS, lenS, appendS, sliceS, boundOf, copyS, copyS.srcLen, makeFuncS, callV, callS, passIds, gather, FUEL, memN, unfz, VE.isVar, hkey, idxOf, renC0, renC, renA1, renA, renB, renOk0, renOk0s, renOk, renOks, mtCells, lent, passA, passOkA, boxN, passBs, passOkB, disjN, distN, mapC0, mapC, mapA1, mapA, mapB, backId, addOut, baseS, setPk, afterS, sealC, sealOk, sealOks, sealPs, rowIds, rowIdsL, VE.freeze, setId, strip, loaded, okC, okCs, okR, okRs, Res.app_mk1, Res.app_mkE, Res.app_no, St.ev, St.get, lkE, nthL, St.put, St.box, lkB, St.setBox, newBox, cellsOf, fieldAddrS, loadS, mkAV, binS, arith, unS, ofConst, TK.agg, boxS, elemSz, ieq, ints, over, fillC, partsOK, lensAll, idsAre, constC, buildS, buildSliceS, storeS, makeSliceS, indexAddrS, indexS, extractS, convertS, srcOf, fieldS, InR, guardB, guardW, ttOf, entSt, envOf, expHp, retQ, retW, retE, resAV, rvS, rvOk, xids, numsOf, varCells, allCells, catCells, expA, expA1, expC, expC0, expOks, expOk, expOk0, expOk0s, flatOks, flatOk, flatOk0, flatOk0s, expBs, expBoxes, expB, famSpec, famPre, famPost, famSpecS, famSpecM, famPreM, famPostM, Hold_ex, Hold_and, Hold_eq, Hold_eq', Hold_pair, Hold_pair3, Hold_or, ↓ifP_true, ↓ifP_false, ↓ifP_not, ifP_decide, ifP_beq, ifP, Nat.reduceLT, Nat.reduceAdd, Nat.reduceBEq, Nat.reduceSub, Nat.reduceLeDiff, Nat.reduceEqDiff, Nat.reduceMul, cond_true, cond_false, true_and, and_true, List.getElem?_cons_zero, List.length_cons, List.length_nil, Nat.zero_add, List.drop_zero, List.take_succ_cons, List.take_zero, List.drop_succ_cons, Option.some.injEq, Option.getD_some, Option.getD_none, forall_eq', forall_eq, decide_eq_true_eq, decide_eq_false_iff_not, Bool.not_eq_true', List.map_cons, List.map_nil, List.length_map, Option.map_some, Option.map_none, Option.bind_some, Option.bind_none, Bool.not_true, Bool.not_false, Bool.true_eq_false, Bool.false_eq_true, forall_const, false_implies, implies_true, not_true_eq_false, not_false_eq_true, reduceCtorEq, Nat.zero_le, Nat.le_refl, Nat.add_zero, true_implies, or_true, true_or, or_false, false_or, and_false, false_and, decide_true, decide_false, Bool.and_true, Bool.true_and, Bool.and_false, Bool.false_and, if_true, if_false, Prod.forall, Prod.exists, and_imp, List.cons.injEq, AV.c.injEq, AV.agg.injEq, C.v.injEq, C.sl.injEq, Value.int.injEq, Value.bool.injEq, exists_eq_left', exists_eq', exists_eq, and_self, and_assoc, Prod.mk.injEq, Nat.mul_one, List.cons_append, List.nil_append, List.set_cons_zero, List.set_cons_succ, ne_eq, Nat.one_ne_zero, List.drop_nil, List.take_nil, List.getElem?_cons_succ, List.getElem?_nil, List.length_replicate, List.append_nil, Bool.and_self, Bool.or_true, Bool.true_or, Bool.or_false, Bool.false_or, Bool.or_self, BEq.rfl, beq_self_eq_true, Nat.lt_add_one, Nat.zero_lt_succ, Nat.not_lt_zero, Option.isSome_some, Option.isSome_none, List.all_nil, List.all_cons, List.flatten_cons, List.flatten_nil, List.isEmpty_nil, List.contains_nil, List.flatMap_cons, List.flatMap_nil, List.length_append]
    refine ⟨fun hlt => ⟨by omega, hlt, fun k hk => ⟨by omega, by omega, fun k' hk' => ⟨fun he => ⟨by omega, by omega, i + 1, by omega, ?_, by omega, ?_⟩, fun he => ?_⟩⟩⟩, fun hge => ?_⟩
    · subst he
      rw [Int.toNat_natCast] at hk hk'
      rw [List.take_add_one, List.take_add_one, hab, hk, hk']
    · exact (ent_of [] (by simp only [leEnv, leA, leA1, leAs, leCs, leC, leC0, leC0s, slOf, leHp, leB, leEs, rho, keyB, keptB, injR, preR, St.get, St.box, lkE, lkB, Nat.reduceBEq, cond_true, cond_false, Option.getD_some, true_and, and_true, forall_const, implies_true, Bool.and_true, Bool.true_and, Bool.and_false, Bool.not_false, Bool.not_true, Bool.false_or, Bool.or_false, BEq.rfl, beq_self_eq_true, List.all_nil, List.all_cons, Bool.or_true, reduceCtorEq, Nat.reduceLT, false_implies, and_self, Nat.reduceSub, Nat.reduceEqDiff, Bool.false_and, Bool.false_eq_true, true_implies, Nat.reduceAdd, imp_self, C.v.injEq, Value.int.injEq, Value.bool.injEq, forall_const, List.length_append, List.length_cons, List.length_nil, Nat.zero_add]; try omega) trivial rfl rfl (by dsimp only; omega))
    · symm
      rw [decide_eq_false_iff_not]
      rintro rfl
      rw [hk] at hk'
      exact he (Option.some.inj hk')
    · have h1 : i = a.length := by omega
      subst h1
      have h2 : a.length = b.length := by omega
      symm
      rw [decide_eq_true_eq]
      rw [List.take_length, h2, List.take_length] at hab
      exact hab
  · symm
    rw [decide_eq_false_iff_not]
    rintro rfl
    exact hl rfl
def spLaw_A : Bool × List UInt8 → List AV := fun x => [.c (.sl x.1 (byC x.2))]
def spLaw_pre : Bool × List UInt8 → Prop := fun x => True
def spLaw_post : Bool × List UInt8 → AV → List Box → Prop := fun x r bs => r = B true ∧ bs = []
def spLaw : VE.Spec := famSpec spLaw_A dBy2 spLaw_pre spLaw_post 100000 false
theorem spLaw_q : spLaw.flat = false ∧ spLaw.mt = [] ∧ spLaw.shut = false ∧ spLaw.cost = 100000 ∧ (∀ a i, spLaw.pre a i = (i = [] ∧ famPre dBy2 spLaw_A spLaw_pre a)) ∧ ∀ a i r b, spLaw.post a i r b = (famPost dBy2 spLaw_post a r b) := ⟨rfl, rfl, rfl, rfl, fun _ _ => rfl, fun _ _ _ _ => rfl⟩
def tb5 : Nat → Option VE.Spec := tabOf [(22, spDrawF), (23, spRuns), (25, spRuns), (24, spEqR)]
theorem tb5_22 : tb5 22 = some spDrawF := rfl
theorem tb5_23 : tb5 23 = some spRuns := rfl
theorem tb5_25 : tb5 25 = some spRuns := rfl
theorem tb5_24 : tb5 24 = some spEqR := rfl
theorem tb5_ok : TabOK Try.prog rt0 tb5 := (tabOf_cons (by kernel_rfl) sat_spec_DrawRunsOf (tabOf_cons (by kernel_rfl) sat_impl_RunsOf (tabOf_cons (by kernel_rfl) sat_spec_RunsOf (tabOf_cons (by kernel_rfl) sat_laws_equalRuns tabOf_nil))))
set_option maxHeartbeats 4000000 in
theorem sat_laws_FnRunsOfLong : Sat Try.prog rt0 5 spLaw := by
  refine fn_sat hm ttok (tab := tb5) tb5_ok Try.func5 (c := Try.f5.body.getD .skip) (by kernel_rfl) (ts := [.tmp 2]) (by kernel_rfl) Try.ntmps5 (sq := fun _ => true) (by kernel_rfl) ?_
  intro args ins pk hpre0 hpk
  obtain ⟨rfl, hpre0⟩ := hpre0
  obtain ⟨⟨t, bs⟩, rfl, hpre, hdec⟩ := famPre_ex hpre0
  clear hpre0 hdec
  try simp only [spLaw_pre, spDrawF_pre, spEqR_pre, spRuns_pre] at hpre
  replace hpk : pk + 100000 ≤ pickLimit := hpk
  refine ⟨Nat.le_of_ble_eq_true rfl, ?_⟩
  simp (config := { maxSteps := 1000000 }) only [ty3, ty4, ty5, ty22, ty25, ty27, ty33, ty35, ty40, ty44, ty46, ty53, ty57, ty63, ty77, ty80, ty82, ty84, ty86, ty90, ty95, ty98, Try.f5, tb5_22, tb5_23, tb5_25, tb5_24, spLaw_q, spLaw_A, spLaw_pre, spLaw_post, spDrawF_q, spDrawF_A, spDrawF_pre, spDrawF_post, spEqR_q, spEqR_A, spEqR_pre, spEqR_post, spRuns_q, spRuns_A, spRuns_pre, spRuns_post, Hold_snd, Hold_eqand, decInts, intC_all, intC_len, pureV_ints, byC_all, byC_len, dI1, dI2, dI3, dB1, dROne, dRdr, dRI, decInt, decAll, intC, List.getElem?_map, Option.map_eq_some_iff, Hold_pair3, colC_ds, colC_len, colC_take, colC_takeA, colC_dropA, colC_drop, colC_ints, colC_ieq, colC_all, colC_pure, colC_strip, colC_seal, colC_ren, colC_exp, colC_map, colC_dec, colC_gat, colC_rok, colC_row, colC_eok, colC_fok, colC_sok, colC_okR, colC_okC, colA, colAd, runC_ds, runC_len, runC_take, runC_takeA, runC_dropA, runC_drop, runC_ints, runC_ieq, runC_all, runC_pure, runC_strip, runC_seal, runC_ren, runC_exp, runC_map, runC_dec, runC_gat, runC_rok, runC_row, runC_eok, runC_fok, runC_sok, runC_okR, runC_okC, runC_fold2, runC_dn, runC_t4, runC_d4, runA, runAd, repl_col, decFrm, frmA, dPB, pbIns, dColA, dColsF, dF1, dF2, dC2, Frm.mk.injEq, dI4, dRI2, dBy2, decU8s, dLI2, dSl, dR2, runW_skip, runW_region, runW_draw, runW_seq, runW_cond, runW_ret, runW_exit, runW_block, seqK, blockK, condW, opsW_nil, opsW_plain, opsW_guard, opW_lit, dstOK, dwS, opS_move, opS_assign, opS_pick, opS_alloc, opS_box, opS_build, opS_buildSlice, opS_load, opS_store, opS_nilCheck, opS_binOp, opS_unOp, opS_convert, opS_makeSlice, opS_fieldAddr, opS_field, opS_indexAddr, opS_index, opS_extract, opS_slice, opS_len, opS_append, opS_copy, opS_min, opS_max, opS_call, opS_callv, opS_makeFunc, opS_makeMap, opS_mapUpdate, isNilS, makeMapS, mapUpdS, updM, intsOf, assignS, pickS, allocS, nilS, minS, lenS, appendS, sliceS, boundOf, copyS, copyS.srcLen, makeFuncS, callV, callS, passIds, gather, FUEL, memN, unfz, VE.isVar, hkey, idxOf, renC0, renC, renA1, renA, renB, renOk0, renOk0s, renOk, renOks, mtCells, lent, passA, passOkA, boxN, passBs, passOkB, disjN, distN, mapC0, mapC, mapA1, mapA, mapB, backId, addOut, baseS, setPk, afterS, sealC, sealOk, sealOks, sealPs, rowIds, rowIdsL, VE.freeze, setId, strip, loaded, okC, okCs, okR, okRs, Res.app_mk1, Res.app_mkE, Res.app_no, St.ev, St.get, lkE, nthL, St.put, St.box, lkB, St.setBox, newBox, cellsOf, fieldAddrS, loadS, mkAV, binS, arith, unS, ofConst, TK.agg, boxS, elemSz, ieq, ints, over, fillC, partsOK, lensAll, idsAre, constC, buildS, buildSliceS, storeS, makeSliceS, indexAddrS, indexS, extractS, convertS, srcOf, fieldS, InR, guardB, guardW, ttOf, entSt, envOf, expHp, retQ, retW, retE, resAV, rvS, rvOk, xids, numsOf, varCells, allCells, catCells, expA, expA1, expC, expC0, expOks, expOk, expOk0, expOk0s, flatOks, flatOk, flatOk0, flatOk0s, expBs, expBoxes, expB, famSpec, famPre, famPost, famSpecS, famSpecM, famPreM, famPostM, Hold_ex, Hold_and, Hold_eq, Hold_eq', Hold_pair, Hold_pair3, Hold_or, ↓ifP_true, ↓ifP_false, ↓ifP_not, ifP_decide, ifP_beq, ifP, Nat.reduceLT, Nat.reduceAdd, Nat.reduceBEq, Nat.reduceSub, Nat.reduceLeDiff, Nat.reduceEqDiff, Nat.reduceMul, cond_true, cond_false, true_and, and_true, List.getElem?_cons_zero, List.length_cons, List.length_nil, Nat.zero_add, List.drop_zero, List.take_succ_cons, List.take_zero, List.drop_succ_cons, Option.some.injEq, Option.getD_some, Option.getD_none, forall_eq', forall_eq, decide_eq_true_eq, decide_eq_false_iff_not, Bool.not_eq_true', List.map_cons, List.map_nil, List.length_map, Option.map_some, Option.map_none, Option.bind_some, Option.bind_none, Bool.not_true, Bool.not_false, Bool.true_eq_false, Bool.false_eq_true, forall_const, false_implies, implies_true, not_true_eq_false, not_false_eq_true, reduceCtorEq, Nat.zero_le, Nat.le_refl, Nat.add_zero, true_implies, or_true, true_or, or_false, false_or, and_false, false_and, decide_true, decide_false, Bool.and_true, Bool.true_and, Bool.and_false, Bool.false_and, if_true, if_false, Prod.forall, Prod.exists, and_imp, List.cons.injEq, AV.c.injEq, AV.agg.injEq, C.v.injEq, C.sl.injEq, Value.int.injEq, Value.bool.injEq, exists_eq_left', exists_eq', exists_eq, and_self, and_assoc, Prod.mk.injEq, Nat.mul_one, List.cons_append, List.nil_append, List.set_cons_zero, List.set_cons_succ, ne_eq, Nat.one_ne_zero, List.drop_nil, List.take_nil, List.getElem?_cons_succ, List.getElem?_nil, List.length_replicate, List.append_nil, Bool.and_self, Bool.or_true, Bool.true_or, Bool.or_false, Bool.false_or, Bool.or_self, BEq.rfl, beq_self_eq_true, Nat.lt_add_one, Nat.zero_lt_succ, Nat.not_lt_zero, Option.isSome_some, Option.isSome_none, List.all_nil, List.all_cons, List.flatten_cons, List.flatten_nil, List.isEmpty_nil, List.contains_nil, List.flatMap_cons, List.flatMap_nil, List.length_append]
  refine ⟨fun h => by omega, fun h => ⟨by omega, by omega, fun tf f hf hw1 hw2 hh1 hh2 => ⟨by omega, by omega, fun t1 => ⟨by omega, by omega, fun t2 => ?_⟩⟩⟩⟩
  have hl := runsF_len f
  have hl' : (runsF ⟨f.w, f.h, f.px⟩).length ≤ f.px.length := hl
  refine ⟨by omega, by omega, fun h0 => ⟨by omega, by omega, by omega, by omega, by omega⟩, fun h0 => ?_⟩
  have hv : vFrm f = true := by
    cases hv : vFrm f with
    | true => rfl
    | false => exact absurd (by simp [runsF, hv]) h0
  have hR : runsF f = runs f.px := by simp [runsF, hv]
  simp only [hR] at hl h0 ⊢
  have hm := fun k hk => (runs_m f.px k hk).1
  have hsum := runs_sum f.px
  have hwh := vFrm_len hv
  refine loopI (α := Nat) (fun i => ⟨72, 0, [(6, I i), (5, I (sumR ((runs f.px).take i))), (4, .c (.sl t1 ((runs f.px).map runC))), (3, .c (.ptr 48 1 0 0))], [(48, some ⟨[[.v (.int .i64 f.w), .v (.int .i64 f.h), .sl tf (f.px.map colC)]], 3, 27, false, false⟩)], 1000, pk + 60010⟩) (fun i => i ≤ (runs f.px).length) (fun i => (runs f.px).length - i) 0 (Nat.zero_le _)
    (ent_of [] (by simp only [List.take_zero, sumR, List.map_nil, List.sum_nil, leEnv, leA, leA1, leAs, leCs, leC, leC0, leC0s, slOf, leHp, leB, leEs, rho, keyB, keptB, injR, preR, St.get, St.box, lkE, lkB, Nat.reduceBEq, cond_true, cond_false, Option.getD_some, true_and, and_true, forall_const, implies_true, Bool.and_true, Bool.true_and, Bool.and_false, Bool.not_false, Bool.not_true, Bool.false_or, Bool.or_false, BEq.rfl, beq_self_eq_true, List.all_nil, List.all_cons, Bool.or_true, reduceCtorEq, Nat.reduceLT, false_implies, and_self, Nat.reduceSub, Nat.reduceEqDiff, Bool.false_and, Bool.false_eq_true, true_implies, Nat.reduceAdd, imp_self, C.v.injEq, Value.int.injEq, Value.bool.injEq, forall_const, List.length_append, List.length_cons, List.length_nil, Nat.zero_add]; try omega) (by simp only [List.take_zero, sumR, List.map_nil, List.sum_nil, leEnv, leA, leA1, leAs, leCs, leC, leC0, leC0s, slOf, leHp, leB, leEs, rho, keyB, keptB, injR, preR, St.get, St.box, lkE, lkB, Nat.reduceBEq, cond_true, cond_false, Option.getD_some, true_and, and_true, forall_const, implies_true, Bool.and_true, Bool.true_and, Bool.and_false, Bool.not_false, Bool.not_true, Bool.false_or, Bool.or_false, BEq.rfl, beq_self_eq_true, List.all_nil, List.all_cons, Bool.or_true, reduceCtorEq, Nat.reduceLT, false_implies, and_self, Nat.reduceSub, Nat.reduceEqDiff, Bool.false_and, Bool.false_eq_true, true_implies, Nat.reduceAdd, imp_self, C.v.injEq, Value.int.injEq, Value.bool.injEq, forall_const, List.length_append, List.length_cons, List.length_nil, Nat.zero_add]; try omega) rfl rfl (by dsimp only; omega)) ?_
  rintro i hi
  have hti := sumR_take hm i
  simp (config := { maxSteps := 1000000 }) only [ty3, ty4, ty5, ty22, ty25, ty27, ty33, ty35, ty40, ty44, ty46, ty53, ty57, ty63, ty77, ty80, ty82, ty84, ty86, ty90, ty95, ty98, Try.f5, tb5_22, tb5_23, tb5_25, tb5_24, spLaw_q, spLaw_A, spLaw_pre, spLaw_post, spDrawF_q, spDrawF_A, spDrawF_pre, spDrawF_post, spEqR_q, spEqR_A, spEqR_pre, spEqR_post, spRuns_q, spRuns_A, spRuns_pre, spRuns_post, Hold_snd, Hold_eqand, decInts, intC_all, intC_len, pureV_ints, byC_all, byC_len, dI1, dI2, dI3, dB1, dROne, dRdr, dRI, decInt, decAll, intC, List.getElem?_map, Option.map_eq_some_iff, Hold_pair3, colC_ds, colC_len, colC_take, colC_takeA, colC_dropA, colC_drop, colC_ints, colC_ieq, colC_all, colC_pure, colC_strip, colC_seal, colC_ren, colC_exp, colC_map, colC_dec, colC_gat, colC_rok, colC_row, colC_eok, colC_fok, colC_sok, colC_okR, colC_okC, colA, colAd, runC_ds, runC_len, runC_take, runC_takeA, runC_dropA, runC_drop, runC_ints, runC_ieq, runC_all, runC_pure, runC_strip, runC_seal, runC_ren, runC_exp, runC_map, runC_dec, runC_gat, runC_rok, runC_row, runC_eok, runC_fok, runC_sok, runC_okR, runC_okC, runC_fold2, runC_dn, runC_t4, runC_d4, runA, runAd, repl_col, decFrm, frmA, dPB, pbIns, dColA, dColsF, dF1, dF2, dC2, Frm.mk.injEq, dI4, dRI2, dBy2, decU8s, dLI2, dSl, dR2, runW_skip, runW_region, runW_draw, runW_seq, runW_cond, runW_ret, runW_exit, runW_block, seqK, blockK, condW, opsW_nil, opsW_plain, opsW_guard, opW_lit, dstOK, dwS, opS_move, opS_assign, opS_pick, opS_alloc, opS_box, opS_build, opS_buildSlice, opS_load, opS_store, opS_nilCheck, opS_binOp, opS_unOp, opS_convert, opS_makeSlice, opS_fieldAddr, opS_field, opS_indexAddr, opS_index, opS_extract, opS_slice, opS_len, opS_append, opS_copy, opS_min, opS_max, opS_call, opS_callv, opS_makeFunc, opS_makeMap, opS_mapUpdate, isNilS, makeMapS, mapUpdS, updM, intsOf, assignS, pickS, allocS, nilS, minS, lenS, appendS, sliceS, boundOf, copyS, copyS.srcLen, makeFuncS, callV, callS, passIds, gather, FUEL, memN, unfz, VE.isVar, hkey, idxOf, renC0, renC, renA1, renA, renB, renOk0, renOk0s, renOk, renOks, mtCells, lent, passA, passOkA, boxN, passBs, passOkB, disjN, distN, mapC0, mapC, mapA1, mapA, mapB, backId, addOut, baseS, setPk, afterS, sealC, sealOk, sealOks, sealPs, rowIds, rowIdsL, VE.freeze, setId, strip, loaded, okC, okCs, okR, okRs, Res.app_mk1, Res.app_mkE, Res.app_no, St.ev, St.get, lkE, nthL, St.put, St.box, lkB, St.setBox, newBox, cellsOf, fieldAddrS, loadS, mkAV, binS, arith, unS, ofConst, TK.agg, boxS, elemSz, ieq, ints, over, fillC, partsOK, lensAll, idsAre, constC, buildS, buildSliceS, storeS, makeSliceS, indexAddrS, indexS, extractS, convertS, srcOf, fieldS, InR, guardB, guardW, ttOf, entSt, envOf, expHp, retQ, retW, retE, resAV, rvS, rvOk, xids, numsOf, varCells, allCells, catCells, expA, expA1, expC, expC0, expOks, expOk, expOk0, expOk0s, flatOks, flatOk, flatOk0, flatOk0s, expBs, expBoxes, expB, famSpec, famPre, famPost, famSpecS, famSpecM, famPreM, famPostM, Hold_ex, Hold_and, Hold_eq, Hold_eq', Hold_pair, Hold_pair3, Hold_or, ↓ifP_true, ↓ifP_false, ↓ifP_not, ifP_decide, ifP_beq, ifP, Nat.reduceLT, Nat.reduceAdd, Nat.reduceBEq, Nat.reduceSub, Nat.reduceLeDiff, Nat.reduceEqDiff, Nat.reduceMul, cond_true, cond_false, true_and, and_true, List.getElem?_cons_zero, List.length_cons, List.length_nil, Nat.zero_add, List.drop_zero, List.take_succ_cons, List.take_zero, List.drop_succ_cons, Option.some.injEq, Option.getD_some, Option.getD_none, forall_eq', forall_eq, decide_eq_true_eq, decide_eq_false_iff_not, Bool.not_eq_true', List.map_cons, List.map_nil, List.length_map, Option.map_some, Option.map_none, Option.bind_some, Option.bind_none, Bool.not_true, Bool.not_false, Bool.true_eq_false, Bool.false_eq_true, forall_const, false_implies, implies_true, not_true_eq_false, not_false_eq_true, reduceCtorEq, Nat.zero_le, Nat.le_refl, Nat.add_zero, true_implies, or_true, true_or, or_false, false_or, and_false, false_and, decide_true, decide_false, Bool.and_true, Bool.true_and, Bool.and_false, Bool.false_and, if_true, if_false, Prod.forall, Prod.exists, and_imp, List.cons.injEq, AV.c.injEq, AV.agg.injEq, C.v.injEq, C.sl.injEq, Value.int.injEq, Value.bool.injEq, exists_eq_left', exists_eq', exists_eq, and_self, and_assoc, Prod.mk.injEq, Nat.mul_one, List.cons_append, List.nil_append, List.set_cons_zero, List.set_cons_succ, ne_eq, Nat.one_ne_zero, List.drop_nil, List.take_nil, List.getElem?_cons_succ, List.getElem?_nil, List.length_replicate, List.append_nil, Bool.and_self, Bool.or_true, Bool.true_or, Bool.or_false, Bool.false_or, Bool.or_self, BEq.rfl, beq_self_eq_true, Nat.lt_add_one, Nat.zero_lt_succ, Nat.not_lt_zero, Option.isSome_some, Option.isSome_none, List.all_nil, List.all_cons, List.flatten_cons, List.flatten_nil, List.isEmpty_nil, List.contains_nil, List.flatMap_cons, List.flatMap_nil, List.length_append]
  refine ⟨fun hlt => ⟨by omega, hlt, fun k hk => ?_⟩, fun hge => ?_⟩
  · rw [Int.toNat_natCast] at hk
    have hs := sumR_step hk
    have hti1 := sumR_take hm (i + 1)
    have hk1 := hm k (List.mem_of_getElem? hk)
    refine ⟨by omega, by omega, by omega, hlt, fun k1 e1 => ?_⟩
    rw [Int.toNat_natCast, hk] at e1
    cases e1
    refine ⟨fun h => by omega, fun _ => ⟨fun hi0 => ⟨by omega, hlt, fun k2 e2 => ?_⟩, fun hi0 => ⟨by omega, by omega, i + 1, by omega, by omega, ?_⟩⟩⟩
    · rw [Int.toNat_natCast, hk] at e2
      cases e2
      refine ⟨by omega, by omega, by omega, by omega, fun k3 e3 => ?_⟩
      rw [show ((i : Int) - 1).toNat = i - 1 by omega] at e3
      have hadj := runs_adj f.px (i - 1) k3.c k.c (by rw [List.getElem?_map, e3]; rfl) (by rw [List.getElem?_map, show i - 1 + 1 = i by omega, hk]; rfl)
      refine ⟨fun h => hadj h.symm, fun _ => ⟨by omega, by omega, i + 1, by omega, by omega, ?_⟩⟩
      rw [hs]
      exact (ent_of [] (by simp only [Int.natCast_add, Int.natCast_one, leEnv, leA, leA1, leAs, leCs, leC, leC0, leC0s, slOf, leHp, leB, leEs, rho, keyB, keptB, injR, preR, St.get, St.box, lkE, lkB, Nat.reduceBEq, cond_true, cond_false, Option.getD_some, true_and, and_true, forall_const, implies_true, Bool.and_true, Bool.true_and, Bool.and_false, Bool.not_false, Bool.not_true, Bool.false_or, Bool.or_false, BEq.rfl, beq_self_eq_true, List.all_nil, List.all_cons, Bool.or_true, reduceCtorEq, Nat.reduceLT, false_implies, and_self, Nat.reduceSub, Nat.reduceEqDiff, Bool.false_and, Bool.false_eq_true, true_implies, Nat.reduceAdd, imp_self, C.v.injEq, Value.int.injEq, Value.bool.injEq, forall_const, List.length_append, List.length_cons, List.length_nil, Nat.zero_add]; try omega) (by simp only [Int.natCast_add, Int.natCast_one, leEnv, leA, leA1, leAs, leCs, leC, leC0, leC0s, slOf, leHp, leB, leEs, rho, keyB, keptB, injR, preR, St.get, St.box, lkE, lkB, Nat.reduceBEq, cond_true, cond_false, Option.getD_some, true_and, and_true, forall_const, implies_true, Bool.and_true, Bool.true_and, Bool.and_false, Bool.not_false, Bool.not_true, Bool.false_or, Bool.or_false, BEq.rfl, beq_self_eq_true, List.all_nil, List.all_cons, Bool.or_true, reduceCtorEq, Nat.reduceLT, false_implies, and_self, Nat.reduceSub, Nat.reduceEqDiff, Bool.false_and, Bool.false_eq_true, true_implies, Nat.reduceAdd, imp_self, C.v.injEq, Value.int.injEq, Value.bool.injEq, forall_const, List.length_append, List.length_cons, List.length_nil, Nat.zero_add]; try omega) rfl rfl (by dsimp only; omega))
    · rw [hs]
      exact (ent_of [] (by simp only [Int.natCast_add, Int.natCast_one, leEnv, leA, leA1, leAs, leCs, leC, leC0, leC0s, slOf, leHp, leB, leEs, rho, keyB, keptB, injR, preR, St.get, St.box, lkE, lkB, Nat.reduceBEq, cond_true, cond_false, Option.getD_some, true_and, and_true, forall_const, implies_true, Bool.and_true, Bool.true_and, Bool.and_false, Bool.not_false, Bool.not_true, Bool.false_or, Bool.or_false, BEq.rfl, beq_self_eq_true, List.all_nil, List.all_cons, Bool.or_true, reduceCtorEq, Nat.reduceLT, false_implies, and_self, Nat.reduceSub, Nat.reduceEqDiff, Bool.false_and, Bool.false_eq_true, true_implies, Nat.reduceAdd, imp_self, C.v.injEq, Value.int.injEq, Value.bool.injEq, forall_const, List.length_append, List.length_cons, List.length_nil, Nat.zero_add]; try omega) (by simp only [Int.natCast_add, Int.natCast_one, leEnv, leA, leA1, leAs, leCs, leC, leC0, leC0s, slOf, leHp, leB, leEs, rho, keyB, keptB, injR, preR, St.get, St.box, lkE, lkB, Nat.reduceBEq, cond_true, cond_false, Option.getD_some, true_and, and_true, forall_const, implies_true, Bool.and_true, Bool.true_and, Bool.and_false, Bool.not_false, Bool.not_true, Bool.false_or, Bool.or_false, BEq.rfl, beq_self_eq_true, List.all_nil, List.all_cons, Bool.or_true, reduceCtorEq, Nat.reduceLT, false_implies, and_self, Nat.reduceSub, Nat.reduceEqDiff, Bool.false_and, Bool.false_eq_true, true_implies, Nat.reduceAdd, imp_self, C.v.injEq, Value.int.injEq, Value.bool.injEq, forall_const, List.length_append, List.length_cons, List.length_nil, Nat.zero_add]; try omega) rfl rfl (by dsimp only; omega))
  · have : i = (runs f.px).length := by omega
    subst this
    rw [List.take_length]
    exact ⟨by omega, by omega, by omega, by omega⟩
end Go.Proofs.Ytofelomoieamoaa
