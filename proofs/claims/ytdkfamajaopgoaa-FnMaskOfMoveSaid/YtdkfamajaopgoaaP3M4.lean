/- Contracts of functions of the program vectorraster, each proved for all states that fit its description. No conditions. -/
import Derived.Test.YtdkfamajaopgoaaPM
set_option maxRecDepth 100000
set_option linter.unusedSimpArgs false
set_option linter.unusedVariables false
namespace Go.Proofs.Ytdkfamajaopgoaa
open Go Go.VE
def mvE (x y : Int) (e : Edge) : Edge := ⟨mv x y e.p, mv x y e.q⟩
theorem ringE_mv (r : List Pt) (x y : Int) : ringE (mvs r x y) = (ringE r).map (mvE x y) := by
  simp only [ringE, mvs, ← List.map_drop, ← List.map_take, ← List.map_append, List.zip_map', List.map_map]
  rw [List.zip_map, List.map_map]; rfl
theorem edges_mv (L : List (List Pt)) (x y : Int) : edgesOf (mvL L x y) = (edgesOf L).map (mvE x y) := by
  simp only [edgesOf, mvL, List.flatMap_map, List.map_flatMap, ringE_mv]
theorem stepE_mv (a b : Int) (e : Edge) (y : Int) : stepE (mvE a b e) (y + b) = stepE e y := by
  simp only [stepE, mvE, mv]
  repeat' split
  all_goals omega
theorem leftE_mv (a b : Int) (e : Edge) (x y : Int) : leftE (mvE a b e) (x + a) (y + b) = leftE e x y := by
  have h1 : ∀ u v : Int, u + a - (v + a) = u - v := fun u v => by omega
  have h2 : ∀ u v : Int, u + b - (v + b) = u - v := fun u v => by omega
  unfold leftE mvE mv
  dsimp only
  rw [h2 e.q.y e.p.y, h1 e.q.x e.p.x, h2 y e.p.y, h1 x e.p.x]
theorem con_mv (a b : Int) (e : Edge) (x y : Int) : con (mvE a b e) (x + a) (y + b) = con e x y := by
  unfold con
  rw [leftE_mv, stepE_mv]
theorem wind_mv (L : List (List Pt)) (a b x y : Int) : wind (mvL L a b) (x + a) (y + b) = wind L x y := by
  simp only [wind, windE, edges_mv, List.map_map, Function.comp_def, con_mv]
theorem vRings_mv {L : List (List Pt)} {a b : Int} (h : vRings L = true) (hm : mvOk L a b = true) : vRings (mvL L a b) = true := by
  simp only [vRings, Bool.and_eq_true, decide_eq_true_eq, List.all_eq_true, mvL_len, mvL_total, mvOk] at *
  refine ⟨⟨fun r hr => ?_, h.1.2⟩, h.2⟩
  simp only [mvL, List.mem_map] at hr
  obtain ⟨q, hq, rfl⟩ := hr
  have h1 := hm q hq
  have h2 := h.1.1 q hq
  simp only [mpOk, vRing_iff, Bool.and_eq_true, mvs_len] at *
  exact ⟨h2.1, h1.2⟩
theorem mvE_edges (L : List (List Pt)) (x y : Int) : wind (mvL L 16 0) (x + 16) y = wind L x y := by
  have := wind_mv L 16 0 x y
  rwa [Int.add_zero] at this
theorem smp_16 (c : Int) (a : Nat) : smp c a = smp (c - 1) a + 16 := by unfold smp; omega
theorem cov_mv (L : List (List Pt)) (rl c w : Int) : cov (mvL L 16 0) rl c w = cov L rl (c - 1) w := by
  simp only [cov, ins1]
  simp only [smp_16 c, mvE_edges]
theorem mask_mv {L : List (List Pt)} {rl w h i : Int} (H : okMask L rl w h = true) (hm : mvOk L 16 0 = true) (h0 : 0 ≤ i) (ht : 0 < i.tmod w) (hi : i < ((maskV L rl w h).length : Int)) :
    i < ((maskV (mvL L 16 0) rl w h).length : Int) ∧ ∀ a b, (maskV (mvL L 16 0) rl w h)[i.toNat]? = some a → (maskV L rl w h)[(i - 1).toNat]? = some b → a = b := by
  obtain ⟨k1, k2, k3, k4⟩ := okMask_iff.1 H
  have H2 : okMask (mvL L 16 0) rl w h = true := okMask_iff.2 ⟨vRings_mv k1 hm, k2, k3, k4⟩
  have hl := maskV_len H
  have hl2 := maskV_len H2
  rw [Int.tmod_eq_emod_of_nonneg h0] at ht
  have hi2 : i < ((maskV (mvL L 16 0) rl w h).length : Int) := by omega
  refine ⟨hi2, fun a b ha hb => ?_⟩
  have e1 := (maskV_get H2 h0 hi2).1
  have hp : 0 < i := by
    rcases Int.lt_or_eq_of_le h0 with hp | hp
    · exact hp
    · rw [← hp] at ht; simp at ht
  have e2 := (maskV_get H (i := i - 1) (by omega) (by omega)).1
  rw [ha] at e1
  rw [hb] at e2
  have d1 := Int.emod_add_mul_ediv i w
  have d2 : (i - 1) % w = i % w - 1 ∧ (i - 1) / w = i / w := by
    have hb1 := Int.emod_lt_of_pos i (show 0 < w by omega)
    have key : i - 1 = (i % w - 1) + w * (i / w) := by omega
    constructor
    · rw [key, Int.add_mul_emod_self_left, Int.emod_eq_of_lt (by omega) (by omega)]
    · rw [key, Int.add_mul_ediv_left _ _ (by omega), Int.ediv_eq_zero_of_lt (by omega) (by omega), Int.zero_add]
  rw [d2.1, d2.2] at e2
  rw [Option.some.inj e1, Option.some.inj e2, cov_mv]
theorem mvIf_len (L : List (List Pt)) (x y : Int) : (if mvOk L x y = true then mvL L x y else []).length ≤ L.length := by
  split
  · rw [mvL_len]; exact Nat.le_refl _
  · exact Nat.zero_le _
theorem tmod_pos {i w : Int} (h0 : 0 ≤ i) (ht : 0 < i.tmod w) : 1 ≤ i := by
  rcases Int.lt_or_eq_of_le h0 with hp | hp
  · omega
  · rw [← hp, Int.zero_tmod] at ht; omega
theorem mvIf_total (L : List (List Pt)) (x y : Int) : total (if mvOk L x y = true then mvL L x y else []) ≤ total L := by
  split
  · rw [mvL_total]; exact Nat.le_refl _
  · exact Nat.zero_le _
def tb7 : Nat → Option VE.Spec := tabOf [(22, wkIn spDMO), (23, wkIn spMask), (25, wkIn spMask), (24, wkIn spEqI), (27, wkIn spMvL)]
theorem tb7_22 : tb7 22 = some (wkIn spDMO) := rfl
theorem tb7_23 : tb7 23 = some (wkIn spMask) := rfl
theorem tb7_25 : tb7 25 = some (wkIn spMask) := rfl
theorem tb7_24 : tb7 24 = some (wkIn spEqI) := rfl
theorem tb7_27 : tb7 27 = some (wkIn spMvL) := rfl
theorem tb7_ok : TabOK Try.prog rt0 tb7 := (tabOf_cons (by kernel_rfl) sat_spec_DrawMaskOf (tabOf_cons (by kernel_rfl) sat_impl_MaskOf (tabOf_cons (by kernel_rfl) sat_spec_MaskOf (tabOf_cons (by kernel_rfl) sat_laws_equalInts (tabOf_cons (by kernel_rfl) sat_laws_moved tabOf_nil)))))
set_option maxHeartbeats 4000000 in
theorem sat_laws_FnMaskOfMove_0 : Sat Try.prog rt0 7 spLaw := by
  refine fn_sat hm ttok (tab := tb7) tb7_ok Try.func7 (c := Try.f7.body.getD .skip) (by kernel_rfl) (ts := [.tmp 2]) (by kernel_rfl) Try.ntmps7 (sq := fun _ => true) (by kernel_rfl) ?_
  intro args ins pk hpre0 hpk
  obtain ⟨rfl, hpre0⟩ := hpre0
  obtain ⟨code, rfl, hpre, hdec⟩ := famPre_ex hpre0
  clear hpre0 hdec
  try simp only [spLaw_pre] at hpre
  replace hpk : pk + 100000 ≤ pickLimit := hpk
  refine ⟨Nat.le_of_ble_eq_true rfl, ?_⟩
  have fold : ∀ (L : List (List Pt)) (rl w h : Int), (if okMask L rl w h = true then maskB L rl ⟨0, 0, w, h⟩ h else []) = maskV L rl w h := fun _ _ _ _ => rfl
  simp (config := { maxSteps := 1000000 }) only [go_sem, ↓ifP_true, ↓ifP_false, ↓ifP_not, Nat.reduceLT, Nat.reduceAdd, Nat.reduceBEq, Nat.reduceSub, Nat.reduceLeDiff, Nat.reduceEqDiff, Nat.reduceMul, Int.reduceToNat, Int.reduceEq, Int.reduceLT, Int.reduceLE, Int.reduceAdd, Int.reduceSub, Int.reduceMul, reduceCtorEq, cond_true, cond_false, forall_eq', forall_eq, forall_const, implies_true, if_true, if_false, exists_eq_left', exists_eq', exists_eq, ne_eq, Try.f7, tb7_22, tb7_23, tb7_25, tb7_24, tb7_27, spLaw_q, spLaw_A, spLaw_pre, spLaw_post, spDMO_q, spDMO_A, spDMO_pre, spDMO_post, spMask_q, spMask_A, spMask_pre, spMask_post, spEqI_q, spEqI_A, spEqI_pre, spEqI_post, spMvL_q, spMvL_A, spMvL_pre, spMvL_post, fold]
  repeat' (first | apply And.intro | (intro _) | omega | assumption | with_reducible rfl)
  all_goals try (exact Nat.le_trans (maskV_le _ _ _ _) (by decide))
  all_goals try (exact Nat.le_trans (mvIf_len _ _ _) (by omega))
  all_goals try (exact Nat.le_trans (mvIf_total _ _ _) (by omega))
  any_goals
    rename_i L rl w h hL1 hL2 hL3 hn
    have H := maskV_pos hn
    have hw := okMask_iff.1 H
    have hl := maskV_len H
    have hle := maskV_le L rl w h
    refine loopS (α := Int) false [0, 1, 2, 3, 4, 6, 8, 11, 12, 13, 14, 15, 16, 17, 18, 19, 20, 21, 22, 23, 24, 25, 26, 27, 28, 29, 30, 31, 32, 33, 34, 35, 36, 37, 38, 39, 40, 41, 42, 43, 44, 45, 46, 47, 48, 49, 50, 51, 52, 53, 54, 55, 56, 57, 58, 59, 60, 61, 62, 63, 64, 65, 66, 67, 68, 69, 70, 71, 72, 73, 74, 75, 76, 77, 78, 79, 80, 81, 82, 83, 84, 85, 86, 87] (fun σ => []) (fun σ x => [(11, I x)]) (fun σ x => []) (fun i => 0) (fun σ => gI (σ.get 11)) (fun σ τ => []) (fun i => 0 ≤ i ∧ i ≤ (maskV L rl w h).length) (fun i => ((maskV L rl w h).length - i).toNat) ⟨by (simp (config := { maxSteps := 1000000 }) only [go_sem, ↓ifP_true, ↓ifP_false, ↓ifP_not, Nat.reduceLT, Nat.reduceAdd, Nat.reduceBEq, Nat.reduceSub, Nat.reduceLeDiff, Nat.reduceEqDiff, Nat.reduceMul, Int.reduceToNat, Int.reduceEq, Int.reduceLT, Int.reduceLE, Int.reduceAdd, Int.reduceSub, Int.reduceMul, reduceCtorEq, cond_true, cond_false, forall_eq', forall_eq, forall_const, implies_true, if_true, if_false, exists_eq_left', exists_eq', exists_eq, ne_eq, Try.f7, tb7_22, tb7_23, tb7_25, tb7_24, tb7_27, spLaw_q, spLaw_A, spLaw_pre, spLaw_post, spDMO_q, spDMO_A, spDMO_pre, spDMO_post, spMask_q, spMask_A, spMask_pre, spMask_post, spEqI_q, spEqI_A, spEqI_pre, spEqI_post, spMvL_q, spMvL_A, spMvL_pre, spMvL_post, fold]; (repeat' (first | apply And.intro | (intro _) | omega | assumption | with_reducible rfl))), ?_⟩
    rintro i hinv
    try dsimp only at hinv
    rcases elemAt (maskV L rl w h) i (by omega) with ⟨hlt, m, hk⟩ | hlt
    all_goals (first | ((have hlt2 := of_eq_true hlt); (have hd := divs (w := w) hinv.1 (by omega) (by omega)); (have hc := fun (hm : mvOk L 16 0 = true) (ht : 0 < i.tmod w) => mask_mv H hm hinv.1 ht hlt2); all_goals simp (config := { maxSteps := 1000000 }) only [go_sem, ↓ifP_true, ↓ifP_false, ↓ifP_not, Nat.reduceLT, Nat.reduceAdd, Nat.reduceBEq, Nat.reduceSub, Nat.reduceLeDiff, Nat.reduceEqDiff, Nat.reduceMul, Int.reduceToNat, Int.reduceEq, Int.reduceLT, Int.reduceLE, Int.reduceAdd, Int.reduceSub, Int.reduceMul, reduceCtorEq, cond_true, cond_false, forall_eq', forall_eq, forall_const, implies_true, if_true, if_false, exists_eq_left', exists_eq', exists_eq, ne_eq, Try.f7, tb7_22, tb7_23, tb7_25, tb7_24, tb7_27, spLaw_q, spLaw_A, spLaw_pre, spLaw_post, spDMO_q, spDMO_A, spDMO_pre, spDMO_post, spMask_q, spMask_A, spMask_pre, spMask_post, spEqI_q, spEqI_A, spEqI_pre, spEqI_post, spMvL_q, spMvL_A, spMvL_pre, spMvL_post, fold, hlt, hk]) | (have hlt2 := of_eq_false hlt; simp (config := { maxSteps := 1000000 }) only [go_sem, ↓ifP_true, ↓ifP_false, ↓ifP_not, Nat.reduceLT, Nat.reduceAdd, Nat.reduceBEq, Nat.reduceSub, Nat.reduceLeDiff, Nat.reduceEqDiff, Nat.reduceMul, Int.reduceToNat, Int.reduceEq, Int.reduceLT, Int.reduceLE, Int.reduceAdd, Int.reduceSub, Int.reduceMul, reduceCtorEq, cond_true, cond_false, forall_eq', forall_eq, forall_const, implies_true, if_true, if_false, exists_eq_left', exists_eq', exists_eq, ne_eq, Try.f7, tb7_22, tb7_23, tb7_25, tb7_24, tb7_27, spLaw_q, spLaw_A, spLaw_pre, spLaw_post, spDMO_q, spDMO_A, spDMO_pre, spDMO_post, spMask_q, spMask_A, spMask_pre, spMask_post, spEqI_q, spEqI_A, spEqI_pre, spEqI_post, spMvL_q, spMvL_A, spMvL_pre, spMvL_post, fold, hlt]))
    all_goals
    repeat' (first | apply And.intro | (intro _) | omega | assumption | with_reducible rfl)
  all_goals (first | ((have h9 := tmod_pos hinv.1 ‹0 < i.tmod w›; omega); done) | ((rename_i hm ht hge; rw [if_pos hm] at hge; have h9 := (hc hm ht).1; omega); done) | ((rename_i hm ht hge k1 e1 k2 e2 hne; rw [if_pos hm] at e1; exact hne ((hc hm ht).2 _ _ e1 e2)); done) | (omega; done))
theorem sat_laws_FnMaskOfMove : Sat Try.prog rt0 7 (wkIn spLaw) := sat_in sat_laws_FnMaskOfMove_0
end Go.Proofs.Ytdkfamajaopgoaa
