/- Contracts of functions of the program vectorraster, each proved for all states that fit its description. -/
import Derived.Test.YtofelomoieamoaaC10
set_option maxRecDepth 100000
set_option linter.unusedSimpArgs false
set_option linter.unusedVariables false
namespace Go.Proofs.Ytofelomoieamoaa
open Go Go.VE
theorem blank_ok {n m : Int} (h : Sized n m) : vFrm ⟨n, m, List.replicate (n * m).toNat zcol⟩ = true := by
  have hm := sized_mul h
  unfold vFrm
  simp only [Bool.and_eq_true, decide_eq_true_eq, List.length_replicate]
  refine ⟨⟨h, by omega⟩, ?_⟩
  rw [List.all_eq_true]
  intro x hx
  rw [List.eq_of_mem_replicate hx]
  decide
theorem cols_rep (c : Col) (n : Nat) : cols (List.replicate (n + 1) c) = [c] := by
  have h : ∀ n, (List.replicate n c).foldl (fun o c => insC c o) [c] = [c] := by
    intro n
    induction n with
    | zero => rfl
    | succ n ih => rw [List.replicate_succ, List.foldl_cons]; simpa [insC] using ih
  rw [List.replicate_succ]
  exact h n
def tb3 : Nat → Option VE.Spec := tabOf [(12, spDrawBF), (13, spBlank), (15, spBlank), (14, spEqF), (16, spGap), (17, spCount)]
theorem tb3_12 : tb3 12 = some spDrawBF := rfl
theorem tb3_13 : tb3 13 = some spBlank := rfl
theorem tb3_15 : tb3 15 = some spBlank := rfl
theorem tb3_14 : tb3 14 = some spEqF := rfl
theorem tb3_16 : tb3 16 = some spGap := rfl
theorem tb3_17 : tb3 17 = some spCount := rfl
theorem tb3_ok : TabOK Try.prog rt0 tb3 := (tabOf_cons (by kernel_rfl) sat_spec_DrawBlankFrame (tabOf_cons (by kernel_rfl) sat_impl_BlankFrame (tabOf_cons (by kernel_rfl) sat_spec_BlankFrame (tabOf_cons (by kernel_rfl) sat_laws_equalFrame (tabOf_cons (by kernel_rfl) sat_impl_FrameGap (tabOf_cons (by kernel_rfl) sat_impl_ColorCount tabOf_nil))))))
set_option maxHeartbeats 4000000 in
theorem sat_laws_FnBlankFrame : Sat Try.prog rt0 3 spLaw := by
  refine fn_sat hm ttok (tab := tb3) tb3_ok Try.func3 (c := Try.f3.body.getD .skip) (by kernel_rfl) (ts := [.tmp 2]) (by kernel_rfl) Try.ntmps3 (sq := fun _ => true) (by kernel_rfl) ?_
  intro args ins pk hpre0 hpk
  obtain ⟨rfl, hpre0⟩ := hpre0
  obtain ⟨⟨t, bs⟩, rfl, hpre, hdec⟩ := famPre_ex hpre0
  clear hpre0 hdec
  try simp only [spLaw_pre, spBlank_pre, spCount_pre, spDrawBF_pre, spEqF_pre, spGap_pre] at hpre
  replace hpk : pk + 100000 ≤ pickLimit := hpk
  refine ⟨Nat.le_of_ble_eq_true rfl, ?_⟩
  simp (config := { maxSteps := 1000000 }) only [ty3, ty4, ty5, ty22, ty25, ty27, ty33, ty35, ty40, ty44, ty46, ty53, ty57, ty63, ty77, ty80, ty82, ty84, ty86, ty90, ty95, ty98, Try.f3, tb3_12, tb3_13, tb3_15, tb3_14, tb3_16, tb3_17, spLaw_q, spLaw_A, spLaw_pre, spLaw_post, spBlank_q, spBlank_A, spBlank_pre, spBlank_post, spCount_q, spCount_A, spCount_pre, spCount_post, spDrawBF_q, spDrawBF_A, spDrawBF_pre, spDrawBF_post, spEqF_q, spEqF_A, spEqF_pre, spEqF_post, spGap_q, spGap_A, spGap_pre, spGap_post, Hold_snd, Hold_eqand, decInts, intC_all, intC_len, pureV_ints, byC_all, byC_len, dI1, dI2, dI3, dB1, dROne, dRdr, dRI, decInt, decAll, intC, List.getElem?_map, Option.map_eq_some_iff, Hold_pair3, colC_ds, colC_len, colC_take, colC_takeA, colC_dropA, colC_drop, colC_ints, colC_ieq, colC_all, colC_pure, colC_strip, colC_seal, colC_ren, colC_exp, colC_map, colC_dec, colC_gat, colC_rok, colC_row, colC_eok, colC_fok, colC_sok, colC_okR, colC_okC, colA, colAd, runC_ds, runC_len, runC_take, runC_takeA, runC_dropA, runC_drop, runC_ints, runC_ieq, runC_all, runC_pure, runC_strip, runC_seal, runC_ren, runC_exp, runC_map, runC_dec, runC_gat, runC_rok, runC_row, runC_eok, runC_fok, runC_sok, runC_okR, runC_okC, runC_fold2, runC_dn, runC_t4, runC_d4, runA, runAd, repl_col, decFrm, frmA, dPB, pbIns, dColA, dColsF, dF1, dF2, dC2, Frm.mk.injEq, dI4, dRI2, dBy2, decU8s, dLI2, dSl, dR2, runW_skip, runW_region, runW_draw, runW_seq, runW_cond, runW_ret, runW_exit, runW_block, seqK, blockK, condW, opsW_nil, opsW_plain, opsW_guard, opW_lit, dstOK, dwS, opS_move, opS_assign, opS_pick, opS_alloc, opS_box, opS_build, opS_buildSlice, opS_load, opS_store, opS_nilCheck, opS_binOp, opS_unOp, opS_convert, opS_makeSlice, opS_fieldAddr, opS_field, opS_indexAddr, opS_index, opS_extract, opS_slice, opS_len, opS_append, opS_copy, opS_min, opS_max, opS_call, opS_callv, opS_makeFunc, opS_makeMap, opS_mapUpdate, isNilS, makeMapS, mapUpdS, updM, intsOf, assignS, pickS, allocS, nilS, minS, lenS, appendS, sliceS, boundOf, copyS, copyS.srcLen, makeFuncS, callV, callS, passIds, gather, FUEL, memN, unfz, VE.isVar, hkey, idxOf, renC0, renC, renA1, renA, renB, renOk0, renOk0s, renOk, renOks, mtCells, lent, passA, passOkA, boxN, passBs, passOkB, disjN, distN, mapC0, mapC, mapA1, mapA, mapB, backId, addOut, baseS, setPk, afterS, sealC, sealOk, sealOks, sealPs, rowIds, rowIdsL, VE.freeze, setId, strip, loaded, okC, okCs, okR, okRs, Res.app_mk1, Res.app_mkE, Res.app_no, St.ev, St.get, lkE, nthL, St.put, St.box, lkB, St.setBox, newBox, cellsOf, fieldAddrS, loadS, mkAV, binS, arith, unS, ofConst, TK.agg, boxS, elemSz, ieq, ints, over, fillC, partsOK, lensAll, idsAre, constC, buildS, buildSliceS, storeS, makeSliceS, indexAddrS, indexS, extractS, convertS, srcOf, fieldS, InR, guardB, guardW, ttOf, entSt, envOf, expHp, retQ, retW, retE, resAV, rvS, rvOk, xids, numsOf, varCells, allCells, catCells, expA, expA1, expC, expC0, expOks, expOk, expOk0, expOk0s, flatOks, flatOk, flatOk0, flatOk0s, expBs, expBoxes, expB, famSpec, famPre, famPost, famSpecS, famSpecM, famPreM, famPostM, Hold_ex, Hold_and, Hold_eq, Hold_eq', Hold_pair, Hold_pair3, Hold_or, ↓ifP_true, ↓ifP_false, ↓ifP_not, ifP_decide, ifP_beq, ifP, Nat.reduceLT, Nat.reduceAdd, Nat.reduceBEq, Nat.reduceSub, Nat.reduceLeDiff, Nat.reduceEqDiff, Nat.reduceMul, cond_true, cond_false, true_and, and_true, List.getElem?_cons_zero, List.length_cons, List.length_nil, Nat.zero_add, List.drop_zero, List.take_succ_cons, List.take_zero, List.drop_succ_cons, Option.some.injEq, Option.getD_some, Option.getD_none, forall_eq', forall_eq, decide_eq_true_eq, decide_eq_false_iff_not, Bool.not_eq_true', List.map_cons, List.map_nil, List.length_map, Option.map_some, Option.map_none, Option.bind_some, Option.bind_none, Bool.not_true, Bool.not_false, Bool.true_eq_false, Bool.false_eq_true, forall_const, false_implies, implies_true, not_true_eq_false, not_false_eq_true, reduceCtorEq, Nat.zero_le, Nat.le_refl, Nat.add_zero, true_implies, or_true, true_or, or_false, false_or, and_false, false_and, decide_true, decide_false, Bool.and_true, Bool.true_and, Bool.and_false, Bool.false_and, if_true, if_false, Prod.forall, Prod.exists, and_imp, List.cons.injEq, AV.c.injEq, AV.agg.injEq, C.v.injEq, C.sl.injEq, Value.int.injEq, Value.bool.injEq, exists_eq_left', exists_eq', exists_eq, and_self, and_assoc, Prod.mk.injEq, Nat.mul_one, List.cons_append, List.nil_append, List.set_cons_zero, List.set_cons_succ, ne_eq, Nat.one_ne_zero, List.drop_nil, List.take_nil, List.getElem?_cons_succ, List.getElem?_nil, List.length_replicate, List.append_nil, Bool.and_self, Bool.or_true, Bool.true_or, Bool.or_false, Bool.false_or, Bool.or_self, BEq.rfl, beq_self_eq_true, Nat.lt_add_one, Nat.zero_lt_succ, Nat.not_lt_zero, Option.isSome_some, Option.isSome_none, List.all_nil, List.all_cons, List.flatten_cons, List.flatten_nil, List.isEmpty_nil, List.contains_nil, List.flatMap_cons, List.flatMap_nil, List.length_append]
  refine ⟨fun h => by omega, fun h => ⟨by omega, by omega, fun a b ha hb => ⟨by omega, fun hs => ?_, fun hs => ?_⟩⟩⟩
  · have hm := sized_mul hs
    have h0 : ¬ a = 0 := by have := hs.1.1; omega
    have hv := blank_ok hs
    refine ⟨by omega, fun _ => ⟨by omega, by omega, fun e => absurd e h0, fun _ => ⟨by omega, by omega, fun _ => ⟨by omega, by omega, fun _ => ⟨by omega, by omega, by omega, ?_⟩, fun e => e ?_⟩, fun e => e (by omega)⟩⟩, fun e => absurd hs e⟩
    · unfold countF
      rw [if_pos hv]
      obtain ⟨n, hn⟩ : ∃ n, (a * b).toNat = n + 1 := ⟨(a * b).toNat - 1, by omega⟩
      simp only [hn, cols_rep]
      rfl
    · unfold gapF
      rw [if_pos ⟨hv, hv, rfl, rfl⟩, nd_same]
  · exact ⟨by omega, fun e => absurd e hs, fun _ => ⟨by omega, by omega, fun e => absurd e hs, fun _ => ⟨by omega, by omega⟩⟩⟩
end Go.Proofs.Ytofelomoieamoaa
