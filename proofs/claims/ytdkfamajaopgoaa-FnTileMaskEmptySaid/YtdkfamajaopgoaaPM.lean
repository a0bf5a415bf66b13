/- Contracts of functions of the program vectorraster, each proved for all states that fit its description. No conditions. -/
import Derived.Test.YtdkfamajaopgoaaPL
import Derived.Test.YtdkfamajaopgoaaPH
import Derived.Test.YtdkfamajaopgoaaPJ
import Derived.Test.YtdkfamajaopgoaaPI
import Derived.Test.YtdkfamajaopgoaaP3L2
set_option linter.unusedSimpArgs false
set_option linter.unusedVariables false
section
set_option maxRecDepth 100000
set_option linter.unusedSimpArgs false
set_option linter.unusedVariables false
namespace Go.Proofs.Ytdkfamajaopgoaa
open Go Go.VE
def d_li_li : List AV → Option ((List Int) × (List Int))
  | [.c (.sl _ a0), .c (.sl _ a1)] => match decAll intCd a0, decAll intCd a1 with
    | some a0v, some a1v => some (a0v, a1v)
    | _, _ => none
  | _ => none
attribute [go_sem] d_li_li
end Go.Proofs.Ytdkfamajaopgoaa
end
section
set_option maxRecDepth 100000
set_option linter.unusedSimpArgs false
set_option linter.unusedVariables false
namespace Go.Proofs.Ytdkfamajaopgoaa
open Go Go.VE
def spDMO_A : (List UInt8) → List AV
  | code => [.c (.sl false (byC code))]
def spDMO_pre : (List UInt8) → Prop
  | code => code.length ≤ 1048576
def spDMO_post : (List UInt8) → AV → List Box → Prop
  | code, r, bs => ∃ L rl w h, r = .tup [.c (.sl false (L.map lptC)), I rl, I w, I h] ∧ bs = [] ∧ (L.length ≤ 9 ∧ total L ≤ 210 ∧ okLL L)
def spDMO : VE.Spec := famSpecS spDMO_A d_ly spDMO_pre spDMO_post 190 false
theorem spDMO_q : spDMO.flat = false ∧ spDMO.mt = [] ∧ spDMO.shut = true ∧ spDMO.cost = 190 ∧ (∀ a i, spDMO.pre a i = (i = [] ∧ famPre d_ly spDMO_A spDMO_pre a)) ∧ ∀ a i r b, spDMO.post a i r b = (famPost d_ly spDMO_post a r b) := ⟨rfl, rfl, rfl, rfl, fun _ _ => rfl, fun _ _ _ _ => rfl⟩
def tb22 : Nat → Option VE.Spec := tabOf [(46, wkIn spNew), (54, wkIn spARings), (55, wkIn spRule), (56, wkIn spSide9)]
theorem tb22_46 : tb22 46 = some (wkIn spNew) := rfl
theorem tb22_54 : tb22 54 = some (wkIn spARings) := rfl
theorem tb22_55 : tb22 55 = some (wkIn spRule) := rfl
theorem tb22_56 : tb22 56 = some (wkIn spSide9) := rfl
theorem tb22_ok : TabOK Try.prog rt0 tb22 := (tabOf_cons (by kernel_rfl) sat_spec_newReader (tabOf_cons (by kernel_rfl) sat_spec_anyRings (tabOf_cons (by kernel_rfl) sat_spec_anyRule (tabOf_cons (by kernel_rfl) sat_spec_anySide tabOf_nil))))
set_option maxHeartbeats 4000000 in
theorem sat_spec_DrawMaskOf_0 : Sat Try.prog rt0 22 (wkOut spDMO) := by
  refine fn_sat hm ttok (tab := tb22) tb22_ok Try.func22 (c := Try.f22.body.getD .skip) (by kernel_rfl) (ts := [.tmp 2, .tmp 3, .tmp 4, .tmp 5]) (by kernel_rfl) Try.ntmps22 (sq := fun _ => true) (by kernel_rfl) ?_
  intro args ins pk hpre0 hpk
  obtain ⟨rfl, hpre0⟩ := hpre0
  obtain ⟨code, rfl, hpre, hdec⟩ := famPre_ex hpre0
  clear hpre0 hdec
  try simp only [spDMO_pre] at hpre
  replace hpk : pk + 190 ≤ pickLimit := hpk
  refine ⟨Nat.le_of_ble_eq_true rfl, ?_⟩
  simp (config := { maxSteps := 1000000 }) only [go_sem, ↓ifP_true, ↓ifP_false, ↓ifP_not, Nat.reduceLT, Nat.reduceAdd, Nat.reduceBEq, Nat.reduceSub, Nat.reduceLeDiff, Nat.reduceEqDiff, Nat.reduceMul, Int.reduceToNat, Int.reduceEq, Int.reduceLT, Int.reduceLE, Int.reduceAdd, Int.reduceSub, Int.reduceMul, reduceCtorEq, cond_true, cond_false, forall_eq', forall_eq, forall_const, implies_true, if_true, if_false, exists_eq_left', exists_eq', exists_eq, ne_eq, Try.f22, tb22_46, tb22_54, tb22_55, tb22_56, spDMO_q, spDMO_A, spDMO_pre, spDMO_post, spNew_q, spARings_q, spARings_A, spARings_pre, spARings_post, spRule_q, spRule_A, spRule_pre, spRule_post, spSide9_q, spSide9_A, spSide9_pre, spSide9_post]
  repeat' (first | apply And.intro | (intro _) | omega | assumption | with_reducible rfl)
  all_goals (first | (exact ⟨_, _, rfl, rfl, hpre⟩; done) | (exact ⟨_, _, _, _, rfl, rfl, rfl, rfl, by assumption, by assumption, by assumption⟩; done))
theorem sat_spec_DrawMaskOf : Sat Try.prog rt0 22 (wkIn spDMO) := sat_in (sat_out sat_spec_DrawMaskOf_0)
def spEqI_A : (List Int) × (List Int) → List AV
  | (a, b) => [.c (.sl false (a.map intC)), .c (.sl false (b.map intC))]
def spEqI_pre : (List Int) × (List Int) → Prop
  | (a, b) => a.length ≤ 1000000000 ∧ b.length ≤ 1000000000
def spEqI_post : (List Int) × (List Int) → AV → List Box → Prop
  | (a, b), r, bs => r = B (decide (a = b)) ∧ bs = []
def spEqI : VE.Spec := famSpec spEqI_A d_li_li spEqI_pre spEqI_post 0 true
theorem spEqI_q : spEqI.flat = true ∧ spEqI.mt = [] ∧ spEqI.shut = false ∧ spEqI.cost = 0 ∧ (∀ a i, spEqI.pre a i = (i = [] ∧ famPre d_li_li spEqI_A spEqI_pre a)) ∧ ∀ a i r b, spEqI.post a i r b = (famPost d_li_li spEqI_post a r b) := ⟨rfl, rfl, rfl, rfl, fun _ _ => rfl, fun _ _ _ _ => rfl⟩
def tb24 : Nat → Option VE.Spec := tabOf []
theorem tb24_ok : TabOK Try.prog rt0 tb24 := tabOf_nil
set_option maxHeartbeats 4000000 in
theorem sat_laws_equalInts_0 : Sat Try.prog rt0 24 (wkOut spEqI) := by
  refine fn_sat hm ttok (tab := tb24) tb24_ok Try.func24 (c := Try.f24.body.getD .skip) (by kernel_rfl) (ts := [.tmp 4]) (by kernel_rfl) Try.ntmps24 (sq := fun _ => true) (by kernel_rfl) ?_
  intro args ins pk hpre0 hpk
  obtain ⟨rfl, hpre0⟩ := hpre0
  obtain ⟨⟨a, b⟩, rfl, hpre, hdec⟩ := famPre_ex hpre0
  clear hpre0 hdec
  try simp only [spEqI_pre] at hpre
  replace hpk : pk + 0 ≤ pickLimit := hpk
  refine ⟨Nat.le_of_ble_eq_true rfl, ?_⟩
  simp (config := { maxSteps := 1000000 }) only [go_sem, ↓ifP_true, ↓ifP_false, ↓ifP_not, Nat.reduceLT, Nat.reduceAdd, Nat.reduceBEq, Nat.reduceSub, Nat.reduceLeDiff, Nat.reduceEqDiff, Nat.reduceMul, Int.reduceToNat, Int.reduceEq, Int.reduceLT, Int.reduceLE, Int.reduceAdd, Int.reduceSub, Int.reduceMul, reduceCtorEq, cond_true, cond_false, forall_eq', forall_eq, forall_const, implies_true, if_true, if_false, exists_eq_left', exists_eq', exists_eq, ne_eq, Try.f24, spEqI_q, spEqI_A, spEqI_pre, spEqI_post]
  repeat' (first | apply And.intro | (intro _) | omega | assumption | with_reducible rfl)
  any_goals
    refine loopS (α := Int) false [2, 3, 4, 5, 6, 7, 8, 9, 10, 11, 12, 13, 14, 15, 16, 17, 18, 19, 20, 21, 22, 23, 24, 25] (fun σ => []) (fun σ x => [(5, I x)]) (fun σ x => []) (fun i => 0) (fun σ => gI (σ.get 5)) (fun σ τ => []) (fun i => 0 ≤ i ∧ i ≤ a.length ∧ a.take i.toNat = b.take i.toNat) (fun i => (a.length - i).toNat) ⟨by (simp (config := { maxSteps := 1000000 }) only [go_sem, ↓ifP_true, ↓ifP_false, ↓ifP_not, Nat.reduceLT, Nat.reduceAdd, Nat.reduceBEq, Nat.reduceSub, Nat.reduceLeDiff, Nat.reduceEqDiff, Nat.reduceMul, Int.reduceToNat, Int.reduceEq, Int.reduceLT, Int.reduceLE, Int.reduceAdd, Int.reduceSub, Int.reduceMul, reduceCtorEq, cond_true, cond_false, forall_eq', forall_eq, forall_const, implies_true, if_true, if_false, exists_eq_left', exists_eq', exists_eq, ne_eq, Try.f24, spEqI_q, spEqI_A, spEqI_pre, spEqI_post]; (repeat' (first | apply And.intro | (intro _) | omega | assumption | with_reducible rfl)); all_goals (first | rfl)), ?_⟩
    rintro i hinv
    try dsimp only at hinv
    simp (config := { maxSteps := 1000000 }) only [go_sem, ↓ifP_true, ↓ifP_false, ↓ifP_not, Nat.reduceLT, Nat.reduceAdd, Nat.reduceBEq, Nat.reduceSub, Nat.reduceLeDiff, Nat.reduceEqDiff, Nat.reduceMul, Int.reduceToNat, Int.reduceEq, Int.reduceLT, Int.reduceLE, Int.reduceAdd, Int.reduceSub, Int.reduceMul, reduceCtorEq, cond_true, cond_false, forall_eq', forall_eq, forall_const, implies_true, if_true, if_false, exists_eq_left', exists_eq', exists_eq, ne_eq, Try.f24, spEqI_q, spEqI_A, spEqI_pre, spEqI_post]
    repeat' (first | apply And.intro | (intro _) | omega | assumption | with_reducible rfl)
  
  all_goals (first | (exact eqL_step ‹_› ‹_› ‹_› hinv.1 hinv.2.2; done) | (exact (decide_eq_false (eqL_no ‹_› ‹_› ‹_›)).symm; done) | (exact (decide_eq_true (eqL_end ‹_› ‹_› hinv.2.2)).symm; done) | (exact (decide_eq_false (eqL_len ‹_›)).symm; done))
theorem sat_laws_equalInts : Sat Try.prog rt0 24 (wkIn spEqI) := sat_in (sat_out sat_laws_equalInts_0)
theorem okMask_iff {L : List (List Pt)} {rl w h : Int} : okMask L rl w h = true ↔ vRings L = true ∧ isRl rl = true ∧ (1 ≤ w ∧ w ≤ 12) ∧ 1 ≤ h ∧ h ≤ 12 := by
  simp [okMask, szd, Bool.and_eq_true, and_assoc]
def maskV (L : List (List Pt)) (rl w h : Int) : List Int := if okMask L rl w h = true then maskB L rl ⟨0, 0, w, h⟩ h else []
theorem maskV_len {L : List (List Pt)} {rl w h : Int} (H : okMask L rl w h = true) : ((maskV L rl w h).length : Int) = w * h := by
  obtain ⟨_, _, h1, h2⟩ := okMask_iff.1 H
  rw [maskV, if_pos H, maskB_len]
  show (((h - 0).toNat * (w - 0).toNat : Nat) : Int) = w * h
  rw [Int.natCast_mul, Int.toNat_of_nonneg (by omega), Int.toNat_of_nonneg (by omega), Int.mul_comm]; simp
theorem maskV_le (L : List (List Pt)) (rl w h : Int) : (maskV L rl w h).length ≤ 144 := by
  by_cases H : okMask L rl w h = true
  · obtain ⟨_, _, h1, h2⟩ := okMask_iff.1 H
    rw [maskV, if_pos H, maskB_len]
    exact mask_small (by show (h - 0).toNat ≤ 12; omega) (by show (w - 0).toNat ≤ 12; omega)
  · rw [maskV, if_neg H]; simp
theorem maskV_pos {L : List (List Pt)} {rl w h : Int} (H : ¬ ((maskV L rl w h).length : Int) = 0) : okMask L rl w h = true := by
  by_cases e : okMask L rl w h = true
  · exact e
  · rw [maskV, if_neg e] at H; exact absurd rfl H
theorem flat_get (f : Int → List Int) (n : Nat) (hf : ∀ w, (f w).length = n) (hn : 0 < n) : ∀ (l : List Int) (i : Nat), (l.flatMap f)[i]? = (l[i / n]?).bind fun w => (f w)[i % n]?
  | [], i => by simp
  | a :: l, i => by
    rw [List.flatMap_cons]
    by_cases h : i < n
    · rw [List.getElem?_append_left (by rw [hf]; exact h), Nat.div_eq_of_lt h, Nat.mod_eq_of_lt h]; rfl
    · rw [List.getElem?_append_right (by rw [hf]; omega), hf, flat_get f n hf hn l (i - n)]
      have e1 : i / n = (i - n) / n + 1 := by
        have := Nat.sub_add_cancel (show n ≤ i by omega)
        conv => lhs; rw [← this, Nat.add_div_right _ hn]
      have e2 : i % n = (i - n) % n := by
        have := Nat.sub_add_cancel (show n ≤ i by omega)
        conv => lhs; rw [← this, Nat.add_mod_right]
      rw [e1, e2, List.getElem?_cons_succ]
theorem rng_get {a b : Int} {i : Nat} (h : (i : Int) < b - a) : (rng a b)[i]? = some (a + i) := by
  unfold rng
  rw [List.getElem?_map, List.getElem?_range (by omega)]; rfl
theorem maskB_get (L : List (List Pt)) (rl : Int) (b : Bx) (t : Int) {i : Int} (h0 : 0 ≤ i) (hb : b.l < b.r) (hi : i < (t - b.t) * (b.r - b.l)) : (maskB L rl b t)[i.toNat]? = some (cov L rl (b.l + i % (b.r - b.l)) (b.t + i / (b.r - b.l))) := by
  have hs : 0 < b.r - b.l := by omega
  have hq : 0 ≤ i / (b.r - b.l) := Int.ediv_nonneg h0 (by omega)
  have hq2 : i / (b.r - b.l) < t - b.t := Int.ediv_lt_of_lt_mul hs hi
  have hm := Int.emod_nonneg i (show b.r - b.l ≠ 0 by omega)
  have hm2 := Int.emod_lt_of_pos i hs
  have e1 : ((i.toNat / (b.r - b.l).toNat : Nat) : Int) = i / (b.r - b.l) := by
    rw [Int.natCast_ediv, Int.toNat_of_nonneg h0, Int.toNat_of_nonneg (by omega)]
  have e2 : ((i.toNat % (b.r - b.l).toNat : Nat) : Int) = i % (b.r - b.l) := by
    rw [Int.natCast_emod, Int.toNat_of_nonneg h0, Int.toNat_of_nonneg (by omega)]
  rw [maskB, flat_get _ _ (fun w => maskRow_len L rl b.l b.r w) (by omega), rng_get (by rw [e1]; omega), Option.bind_some, maskRow, List.getElem?_map, rng_get (by rw [e2]; omega), e1, e2]; rfl
theorem div_rng {w h i : Int} (hw : 1 ≤ w) (h0 : 0 ≤ i) (hi : i < w * h) : 0 ≤ i % w ∧ i % w < w ∧ 0 ≤ i / w ∧ i / w < h := by
  refine ⟨Int.emod_nonneg i (by omega), Int.emod_lt_of_pos i (by omega), Int.ediv_nonneg h0 (by omega), Int.ediv_lt_of_lt_mul (by omega) ?_⟩
  rw [Int.mul_comm]; exact hi
theorem maskV_get {L : List (List Pt)} {rl w h i : Int} (H : okMask L rl w h = true) (h0 : 0 ≤ i) (hi : i < (maskV L rl w h).length) : (maskV L rl w h)[i.toNat]? = some (cov L rl (i % w) (i / w)) ∧ okCov L rl (i % w) (i / w) = true := by
  rw [maskV_len H] at hi
  obtain ⟨k1, k2, h1, h2⟩ := okMask_iff.1 H
  have hd := div_rng h1.1 h0 hi
  refine ⟨?_, okCov_iff.2 ⟨k1, k2, by omega, by omega⟩⟩
  rw [maskV, if_pos H, maskB_get L rl ⟨0, 0, w, h⟩ h h0 (by show 0 < w; omega) (by show i < (h - 0) * (w - 0); rw [Int.sub_zero, Int.sub_zero, Int.mul_comm]; exact hi)]
  simp
theorem maskV_rev (L : List (List Pt)) (rl w h : Int) : maskV (revL L) rl w h = maskV L rl w h := by
  have e : okMask (revL L) rl w h = okMask L rl w h := by simp only [okMask, vRings_rev]
  simp only [maskV, e, maskB, maskRow, cov_rev]
theorem divs {w i : Int} (h0 : 0 ≤ i) (hi : i ≤ 1000000) (hw : 1 ≤ w) : (0 ≤ i.tmod w ∧ i.tmod w < w) ∧ 0 ≤ i.tdiv w ∧ i.tdiv w ≤ 1000000 := by
  have h1 := Int.tmod_nonneg w h0
  have h2 := Int.tmod_lt_of_pos i (show 0 < w by omega)
  have h3 := Int.tdiv_nonneg h0 (show 0 ≤ w by omega)
  have h4 : i.tdiv w ≤ i := by rw [Int.tdiv_eq_ediv_of_nonneg h0]; exact Int.ediv_le_self _ h0
  omega
theorem maskB_t (L : List (List Pt)) (rl l t r b b' x : Int) : maskB L rl ⟨l, t, r, b⟩ x = maskB L rl ⟨l, t, r, b'⟩ x := rfl
end Go.Proofs.Ytdkfamajaopgoaa
end
