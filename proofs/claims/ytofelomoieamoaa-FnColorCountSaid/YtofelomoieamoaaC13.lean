/- Contracts of functions of the program vectorraster, each proved for all states that fit its description. -/
import Derived.Test.YtofelomoieamoaaC12
set_option maxRecDepth 100000
set_option linter.unusedSimpArgs false
set_option linter.unusedVariables false
namespace Go.Proofs.Ytofelomoieamoaa
open Go Go.VE
theorem snoc_ind {α : Type} {P : List α → Prop} (h0 : P []) (hs : ∀ l a, P l → P (l ++ [a])) : ∀ l, P l := by
  have h : ∀ n (l : List α), l.length = n → P l := by
    intro n
    induction n with
    | zero => intro l hl; rw [List.eq_nil_of_length_eq_zero hl]; exact h0
    | succ n ih =>
      intro l hl
      have hne : l ≠ [] := by rintro rfl; cases hl
      rw [← List.dropLast_concat_getLast hne]
      exact hs _ _ (ih _ (by rw [List.length_dropLast]; omega))
  exact fun l => h _ l rfl
theorem cols_snoc (l : List Col) (c : Col) : cols (l ++ [c]) = insC c (cols l) := by simp [cols]
theorem addRun_cols (o : List Run) (c x : Col) : (∃ k ∈ addRun o c, k.c = x) ↔ (∃ k ∈ o, k.c = x) ∨ c = x := by
  unfold addRun
  cases ho : o.getLast? with
  | none => rw [List.getLast?_eq_none_iff.1 ho]; simp
  | some k =>
    obtain ⟨o', rfl⟩ := List.getLast?_eq_some_iff.1 ho
    by_cases e : k.c = c
    · simp only [e, if_true, List.dropLast_concat, List.mem_append, List.mem_singleton]
      constructor
      · rintro ⟨y, hy | rfl, hx⟩
        · exact .inl ⟨y, .inl hy, hx⟩
        · exact .inr hx
      · rintro (⟨y, hy | rfl, hx⟩ | hx)
        · exact ⟨y, .inl hy, hx⟩
        · exact ⟨_, .inr rfl, e ▸ hx⟩
        · exact ⟨_, .inr rfl, hx⟩
    · simp only [e, if_false, List.mem_append, List.mem_singleton]
      constructor
      · rintro ⟨y, hy | rfl, hx⟩
        · exact .inl ⟨y, hy, hx⟩
        · exact .inr hx
      · rintro (⟨y, hy, hx⟩ | hx)
        · exact ⟨y, .inl hy, hx⟩
        · exact ⟨_, .inr rfl, hx⟩
theorem runs_cols : ∀ l : List Col, ∀ x, (∃ k ∈ runs l, k.c = x) ↔ x ∈ l :=
  snoc_ind (by simp [runs]) fun l a ih x => by
    rw [runs_snoc, addRun_cols, ih, List.mem_append, List.mem_singleton, eq_comm (a := a)]
theorem addRun_grow (o : List Run) (c : Col) : o.length ≤ (addRun o c).length ∧ ((∀ k ∈ o, k.c ≠ c) → (addRun o c).length = o.length + 1) := by
  unfold addRun
  cases ho : o.getLast? with
  | none => rw [List.getLast?_eq_none_iff.1 ho]; simp
  | some k =>
    obtain ⟨o', rfl⟩ := List.getLast?_eq_some_iff.1 ho
    by_cases e : k.c = c
    · simp only [e, if_true, List.dropLast_concat]
      exact ⟨by simp, fun h => absurd e (h k (by simp))⟩
    · simp [e]
theorem cols_runs : ∀ l : List Col, (cols l).length ≤ (runs l).length :=
  snoc_ind (by simp [cols]) fun l a ih => by
    rw [runs_snoc, cols_snoc]
    obtain ⟨h1, h2⟩ := addRun_grow (runs l) a
    by_cases hm : a ∈ cols l
    · rw [insC_mem hm]; omega
    · rw [insC_new hm, List.length_append, List.length_singleton, h2 fun k hk e => hm (mem_cols.2 ((runs_cols l a).1 ⟨k, hk, e⟩))]
      omega
theorem cols_one {l : List Col} (h : (cols l).length = 1) : (runs l).length = 1 := by
  have h1 := cols_runs l
  by_cases h2 : (runs l).length = 1
  · exact h2
  · exfalso
    obtain ⟨k0, e0⟩ : ∃ k, (runs l)[0]? = some k := ⟨_, List.getElem?_eq_getElem (by omega)⟩
    obtain ⟨k1, e1⟩ : ∃ k, (runs l)[1]? = some k := ⟨_, List.getElem?_eq_getElem (by omega)⟩
    have hne := runs_adj l 0 k0.c k1.c (by rw [List.getElem?_map, e0]; rfl) (by rw [List.getElem?_map, e1]; rfl)
    have m0 : k0.c ∈ cols l := mem_cols.2 ((runs_cols l _).1 ⟨k0, List.mem_of_getElem? e0, rfl⟩)
    have m1 : k1.c ∈ cols l := mem_cols.2 ((runs_cols l _).1 ⟨k1, List.mem_of_getElem? e1, rfl⟩)
    obtain ⟨x, hx⟩ := List.length_eq_one_iff.1 h
    rw [hx, List.mem_singleton] at m0 m1
    exact hne (m0.trans m1.symm)
theorem cols_pos {l : List Col} (h : l ≠ []) : 1 ≤ (cols l).length := by
  obtain ⟨x, r, rfl⟩ := List.exists_cons_of_ne_nil h
  have : x ∈ cols (x :: r) := mem_cols.2 (by simp)
  exact List.length_pos_of_mem this
def tb6 : Nat → Option VE.Spec := tabOf [(26, spDrawF), (17, spCount), (19, spCount), (23, spRuns)]
theorem tb6_26 : tb6 26 = some spDrawF := rfl
theorem tb6_17 : tb6 17 = some spCount := rfl
theorem tb6_19 : tb6 19 = some spCount := rfl
theorem tb6_23 : tb6 23 = some spRuns := rfl
theorem tb6_ok : TabOK Try.prog rt0 tb6 := (tabOf_cons (by kernel_rfl) sat_spec_DrawColorCount (tabOf_cons (by kernel_rfl) sat_impl_ColorCount (tabOf_cons (by kernel_rfl) sat_spec_ColorCount (tabOf_cons (by kernel_rfl) sat_impl_RunsOf tabOf_nil))))
set_option maxHeartbeats 4000000 in
theorem sat_laws_FnColorCount : Sat Try.prog rt0 6 spLaw := by
  refine fn_sat hm ttok (tab := tb6) tb6_ok Try.func6 (c := Try.f6.body.getD .skip) (by kernel_rfl) (ts := [.tmp 2]) (by kernel_rfl) Try.ntmps6 (sq := fun _ => true) (by kernel_rfl) ?_
  intro args ins pk hpre0 hpk
  obtain ⟨rfl, hpre0⟩ := hpre0
  obtain ⟨⟨t, bs⟩, rfl, hpre, hdec⟩ := famPre_ex hpre0
  clear hpre0 hdec
  try simp only [spLaw_pre, spCount_pre, spDrawF_pre, spRuns_pre] at hpre
  replace hpk : pk + 100000 ≤ pickLimit := hpk
  refine ⟨Nat.le_of_ble_eq_true rfl, ?_⟩
  simp (config := { maxSteps := 1000000 }) only [ty3, ty4, ty5, ty22, ty25, ty27, ty33, ty35, ty40, ty44, ty46, ty53, ty57, ty63, ty77, ty80, ty82, ty84, ty86, ty90, ty95, ty98, Try.f6, tb6_26, tb6_17, tb6_19, tb6_23, spLaw_q, spLaw_A, spLaw_pre, spLaw_post, spCount_q, spCount_A, spCount_pre, spCount_post, spDrawF_q, spDrawF_A, spDrawF_pre, spDrawF_post, spRuns_q, spRuns_A, spRuns_pre, spRuns_post, Hold_snd, Hold_eqand, decInts, intC_all, intC_len, pureV_ints, byC_all, byC_len, dI1, dI2, dI3, dB1, dROne, dRdr, dRI, decInt, decAll, intC, List.getElem?_map, Option.map_eq_some_iff, Hold_pair3, colC_ds, colC_len, colC_take, colC_takeA, colC_dropA, colC_drop, colC_ints, colC_ieq, colC_all, colC_pure, colC_strip, colC_seal, colC_ren, colC_exp, colC_map, colC_dec, colC_gat, colC_rok, colC_row, colC_eok, colC_fok, colC_sok, colC_okR, colC_okC, colA, colAd, runC_ds, runC_len, runC_take, runC_takeA, runC_dropA, runC_drop, runC_ints, runC_ieq, runC_all, runC_pure, runC_strip, runC_seal, runC_ren, runC_exp, runC_map, runC_dec, runC_gat, runC_rok, runC_row, runC_eok, runC_fok, runC_sok, runC_okR, runC_okC, runC_fold2, runC_dn, runC_t4, runC_d4, runA, runAd, repl_col, decFrm, frmA, dPB, pbIns, dColA, dColsF, dF1, dF2, dC2, Frm.mk.injEq, dI4, dRI2, dBy2, decU8s, dLI2, dSl, dR2, runW_skip, runW_region, runW_draw, runW_seq, runW_cond, runW_ret, runW_exit, runW_block, seqK, blockK, condW, opsW_nil, opsW_plain, opsW_guard, opW_lit, dstOK, dwS, opS_move, opS_assign, opS_pick, opS_alloc, opS_box, opS_build, opS_buildSlice, opS_load, opS_store, opS_nilCheck, opS_binOp, opS_unOp, opS_convert, opS_makeSlice, opS_fieldAddr, opS_field, opS_indexAddr, opS_index, opS_extract, opS_slice, opS_len, opS_append, opS_copy, opS_min, opS_max, opS_call, opS_callv, opS_makeFunc, opS_makeMap, opS_mapUpdate, isNilS, makeMapS, mapUpdS, updM, intsOf, assignS, pickS, allocS, nilS, minS, lenS, appendS, sliceS, boundOf, copyS, copyS.srcLen, makeFuncS, callV, callS, passIds, gather, FUEL, memN, unfz, VE.isVar, hkey, idxOf, renC0, renC, renA1, renA, renB, renOk0, renOk0s, renOk, renOks, mtCells, lent, passA, passOkA, boxN, passBs, passOkB, disjN, distN, mapC0, mapC, mapA1, mapA, mapB, backId, addOut, baseS, setPk, afterS, sealC, sealOk, sealOks, sealPs, rowIds, rowIdsL, VE.freeze, setId, strip, loaded, okC, okCs, okR, okRs, Res.app_mk1, Res.app_mkE, Res.app_no, St.ev, St.get, lkE, nthL, St.put, St.box, lkB, St.setBox, newBox, cellsOf, fieldAddrS, loadS, mkAV, binS, arith, unS, ofConst, TK.agg, boxS, elemSz, ieq, ints, over, fillC, partsOK, lensAll, idsAre, constC, buildS, buildSliceS, storeS, makeSliceS, indexAddrS, indexS, extractS, convertS, srcOf, fieldS, InR, guardB, guardW, ttOf, entSt, envOf, expHp, retQ, retW, retE, resAV, rvS, rvOk, xids, numsOf, varCells, allCells, catCells, expA, expA1, expC, expC0, expOks, expOk, expOk0, expOk0s, flatOks, flatOk, flatOk0, flatOk0s, expBs, expBoxes, expB, famSpec, famPre, famPost, famSpecS, famSpecM, famPreM, famPostM, Hold_ex, Hold_and, Hold_eq, Hold_eq', Hold_pair, Hold_pair3, Hold_or, ↓ifP_true, ↓ifP_false, ↓ifP_not, ifP_decide, ifP_beq, ifP, Nat.reduceLT, Nat.reduceAdd, Nat.reduceBEq, Nat.reduceSub, Nat.reduceLeDiff, Nat.reduceEqDiff, Nat.reduceMul, cond_true, cond_false, true_and, and_true, List.getElem?_cons_zero, List.length_cons, List.length_nil, Nat.zero_add, List.drop_zero, List.take_succ_cons, List.take_zero, List.drop_succ_cons, Option.some.injEq, Option.getD_some, Option.getD_none, forall_eq', forall_eq, decide_eq_true_eq, decide_eq_false_iff_not, Bool.not_eq_true', List.map_cons, List.map_nil, List.length_map, Option.map_some, Option.map_none, Option.bind_some, Option.bind_none, Bool.not_true, Bool.not_false, Bool.true_eq_false, Bool.false_eq_true, forall_const, false_implies, implies_true, not_true_eq_false, not_false_eq_true, reduceCtorEq, Nat.zero_le, Nat.le_refl, Nat.add_zero, true_implies, or_true, true_or, or_false, false_or, and_false, false_and, decide_true, decide_false, Bool.and_true, Bool.true_and, Bool.and_false, Bool.false_and, if_true, if_false, Prod.forall, Prod.exists, and_imp, List.cons.injEq, AV.c.injEq, AV.agg.injEq, C.v.injEq, C.sl.injEq, Value.int.injEq, Value.bool.injEq, exists_eq_left', exists_eq', exists_eq, and_self, and_assoc, Prod.mk.injEq, Nat.mul_one, List.cons_append, List.nil_append, List.set_cons_zero, List.set_cons_succ, ne_eq, Nat.one_ne_zero, List.drop_nil, List.take_nil, List.getElem?_cons_succ, List.getElem?_nil, List.length_replicate, List.append_nil, Bool.and_self, Bool.or_true, Bool.true_or, Bool.or_false, Bool.false_or, Bool.or_self, BEq.rfl, beq_self_eq_true, Nat.lt_add_one, Nat.zero_lt_succ, Nat.not_lt_zero, Option.isSome_some, Option.isSome_none, List.all_nil, List.all_cons, List.flatten_cons, List.flatten_nil, List.isEmpty_nil, List.contains_nil, List.flatMap_cons, List.flatMap_nil, List.length_append]
  refine ⟨fun h => by omega, fun h => ⟨by omega, by omega, fun f hf hw1 hw2 hh1 hh2 => ⟨by omega, by omega, by omega, by omega, fun h0 => ⟨by omega, by omega, by omega⟩, fun h0 => ?_⟩⟩⟩
  have hv : vFrm f = true := by
    cases hv : vFrm f with
    | true => rfl
    | false => exact absurd (by show countF f < 0; simp [countF, hv]) h0
  have hC : countF f = (cols f.px).length := by simp [countF, hv]
  have hR : runsF f = runs f.px := by simp [runsF, hv]
  have hl := vFrm_len hv
  have hs : Sized f.w f.h := by
    unfold vFrm at hv
    simp only [Bool.and_eq_true, decide_eq_true_eq] at hv
    exact hv.1.1
  have hm := sized_mul hs
  have hne : f.px ≠ [] := by rintro e; rw [e] at hl; simp only [List.length_nil] at hl; omega
  have c1 := cols_pos hne
  have c2 := cols_runs f.px
  simp only [hC, hR]
  refine ⟨by omega, by omega, fun h1 => ⟨fun h2 => ⟨by omega, ?_⟩, fun h2 => by omega⟩, fun h1 => by omega⟩
  rw [beq_iff_eq, decide_eq_decide]
  constructor
  · intro e
    have := cols_one (l := f.px) (by omega)
    omega
  · intro e
    omega
end Go.Proofs.Ytofelomoieamoaa
