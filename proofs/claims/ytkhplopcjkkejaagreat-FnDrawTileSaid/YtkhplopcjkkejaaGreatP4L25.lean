/- Contracts of functions of the program vectorraster, each proved for all states that fit its description. No conditions. -/
import Derived.Test.YtkhplopcjkkejaaGreatPV
set_option maxRecDepth 100000
set_option linter.unusedSimpArgs false
set_option linter.unusedVariables false
namespace Go.Proofs.YtkhplopcjkkejaaGreat
open Go Go.VE
theorem divs2 {i w : Int} {n : Nat} (h0 : 0 ≤ i) (_ : i < n) (hw : 1 ≤ w) : 0 ≤ i.tdiv w ∧ i.tdiv w ≤ i := by
  refine ⟨Int.tdiv_nonneg h0 (by omega), ?_⟩
  rw [Int.tdiv_eq_ediv_of_nonneg h0]; exact Int.ediv_le_self _ h0
theorem tile_q1 {o : Option Colr} {q p k : Colr} {b : Bool} (hta : o = some (if b = true then p else k)) (hb : b = true) (hq : o = some q) : q = p := by
  rw [hta, if_pos hb] at hq; exact (Option.some.inj hq).symm
theorem tile_q2 {o : Option Colr} {q p k : Colr} {b : Bool} (hta : o = some (if b = true then p else k)) (hb : b = false) (hq : o = some q) : q = k := by
  rw [hta, if_neg (by rw [hb]; decide)] at hq; exact (Option.some.inj hq).symm
theorem tb_bds {s : Scn} (hv : vScn s = true) (t : Int) : (-1000000 ≤ (if isT s.w s.h t = true then tbox s.w s.h t else (⟨0, 0, 0, 0⟩ : Bx)).r ∧ (if isT s.w s.h t = true then tbox s.w s.h t else (⟨0, 0, 0, 0⟩ : Bx)).r ≤ 1000000) ∧ -1000000 ≤ (if isT s.w s.h t = true then tbox s.w s.h t else (⟨0, 0, 0, 0⟩ : Bx)).b ∧ (if isT s.w s.h t = true then tbox s.w s.h t else (⟨0, 0, 0, 0⟩ : Bx)).b ≤ 1000000 := by
  have h8 := szd_r (vScn_parts hv).1
  have h9 := tbV_bd (vScn_parts hv).1 t
  unfold tbV at h9
  omega
theorem dt_plen' (f : Frm) (s : Scn) (t : Int) : (dtF f s t).px.length ≤ f.px.length := by
  unfold dtF; split
  · dsimp only; rw [tileP_len]; exact Nat.le_refl _
  · simp
def tb10 : Nat → Option VE.Spec := tabOf [(33, wkIn spDDT), (34, wkIn spDT), (35, wkIn spDT), (36, wkIn spEqF), (38, wkIn spTb), (39, wkIn spBxH), (15, wkIn spPixOf)]
theorem tb10_33 : tb10 33 = some (wkIn spDDT) := rfl
theorem tb10_34 : tb10 34 = some (wkIn spDT) := rfl
theorem tb10_35 : tb10 35 = some (wkIn spDT) := rfl
theorem tb10_36 : tb10 36 = some (wkIn spEqF) := rfl
theorem tb10_38 : tb10 38 = some (wkIn spTb) := rfl
theorem tb10_39 : tb10 39 = some (wkIn spBxH) := rfl
theorem tb10_15 : tb10 15 = some (wkIn spPixOf) := rfl
theorem tb10_ok : TabOK Tryz.prog rt0 tb10 := (tabOf_cons (by kernel_rfl) sat_spec_DrawDrawTile (tabOf_cons (by kernel_rfl) sat_impl_DrawTile (tabOf_cons (by kernel_rfl) sat_spec_DrawTile (tabOf_cons (by kernel_rfl) sat_laws_equalFrame (tabOf_cons (by kernel_rfl) sat_impl_TileBox (tabOf_cons (by kernel_rfl) sat_impl_BoxHas (tabOf_cons (by kernel_rfl) sat_impl_PixelOf tabOf_nil)))))))
set_option maxHeartbeats 4000000 in
theorem sat_laws_FnDrawTile_0 : Sat Tryz.prog rt0 10 spLaw := by
  refine fn_sat hm ttok (tab := tb10) tb10_ok Tryz.func10 (c := Tryz.f10.body.getD .skip) (by kernel_rfl) (ts := [.tmp 2]) (by kernel_rfl) Tryz.ntmps10 (sq := fun _ => true) (by kernel_rfl) ?_
  intro args ins pk hpre0 hpk
  obtain ⟨rfl, hpre0⟩ := hpre0
  obtain ⟨code, rfl, hpre, hdec⟩ := famPre_ex hpre0
  clear hpre0 hdec
  try simp only [spLaw_pre] at hpre
  replace hpk : pk + 100000 ≤ pickLimit := hpk
  refine ⟨Nat.le_of_ble_eq_true rfl, ?_⟩
  simp (config := { maxSteps := 1000000 }) only [go_sem, ↓ifP_true, ↓ifP_false, ↓ifP_not, Nat.reduceLT, Nat.reduceAdd, Nat.reduceBEq, Nat.reduceSub, Nat.reduceLeDiff, Nat.reduceEqDiff, Nat.reduceMul, Int.reduceToNat, Int.reduceEq, Int.reduceLT, Int.reduceLE, Int.reduceAdd, Int.reduceSub, Int.reduceMul, reduceCtorEq, cond_true, cond_false, forall_eq', forall_eq, forall_const, implies_true, if_true, if_false, exists_eq_left', exists_eq', exists_eq, ne_eq, Tryz.f10, tb10_33, tb10_34, tb10_35, tb10_36, tb10_38, tb10_39, tb10_15, spLaw_q, spLaw_A, spLaw_pre, spLaw_post, spDDT_q, spDDT_A, spDDT_pre, spDDT_post, spDT_q, spDT_A, spDT_pre, spDT_post, spEqF_q, spEqF_A, spEqF_pre, spEqF_post, spTb_q, spTb_A, spTb_pre, spTb_post, spBxH_q, spBxH_A, spBxH_pre, spBxH_post, spPixOf_q, spPixOf_A, spPixOf_pre, spPixOf_post]
  repeat' (first | apply And.intro | (intro _) | omega | assumption | with_reducible rfl)
  any_goals
    rename_i f s t hpx hs hok
    refine loopS (α := Int) false [0, 1, 2, 5, 7, 8, 9, 12, 13, 14, 15, 16, 17, 18, 19, 20, 21, 22, 23, 24, 25, 26, 27, 28, 29, 30, 31, 32, 33, 34, 35, 36, 37, 38, 39, 40, 41, 42, 43, 44, 45, 46, 47, 48, 49, 50, 51, 52, 53, 54, 55, 56, 57, 58, 59, 60, 61, 62, 63, 64, 65, 66, 67, 68, 69, 70, 71, 72, 73, 74, 75, 76, 77, 78, 79, 80, 81, 82, 83, 84, 85, 86, 87, 88, 89, 90, 91, 92, 93, 94, 95, 96, 97, 98, 99, 100, 101, 102, 103, 104, 105, 106, 107, 108, 109, 110, 111, 112] (fun σ => []) (fun σ x => [(12, I x)]) (fun σ x => []) (fun i => 0) (fun σ => gI (σ.get 12)) (fun σ τ => []) (fun i => 0 ≤ i ∧ i ≤ f.px.length) (fun i => (f.px.length - i).toNat) ⟨by (simp (config := { maxSteps := 1000000 }) only [go_sem, ↓ifP_true, ↓ifP_false, ↓ifP_not, Nat.reduceLT, Nat.reduceAdd, Nat.reduceBEq, Nat.reduceSub, Nat.reduceLeDiff, Nat.reduceEqDiff, Nat.reduceMul, Int.reduceToNat, Int.reduceEq, Int.reduceLT, Int.reduceLE, Int.reduceAdd, Int.reduceSub, Int.reduceMul, reduceCtorEq, cond_true, cond_false, forall_eq', forall_eq, forall_const, implies_true, if_true, if_false, exists_eq_left', exists_eq', exists_eq, ne_eq, Tryz.f10, tb10_33, tb10_34, tb10_35, tb10_36, tb10_38, tb10_39, tb10_15, spLaw_q, spLaw_A, spLaw_pre, spLaw_post, spDDT_q, spDDT_A, spDDT_pre, spDDT_post, spDT_q, spDT_A, spDT_pre, spDT_post, spEqF_q, spEqF_A, spEqF_pre, spEqF_post, spTb_q, spTb_A, spTb_pre, spTb_post, spBxH_q, spBxH_A, spBxH_pre, spBxH_post, spPixOf_q, spPixOf_A, spPixOf_pre, spPixOf_post]; (repeat' (first | apply And.intro | (intro _) | omega | assumption | with_reducible rfl))), ?_⟩
    rintro i hinv
    try dsimp only at hinv
    rcases elemAt f.px i (by omega) with ⟨hlt, k, hk⟩ | hlt
    all_goals (first | ((have hlt2 := of_eq_true hlt); (obtain ⟨hta, hw, htl, hv, hT⟩ := tile_at hok hinv.1 hk); (have hd := divs2 hinv.1 hlt2 hw.1); all_goals simp (config := { maxSteps := 1000000 }) only [go_sem, ↓ifP_true, ↓ifP_false, ↓ifP_not, Nat.reduceLT, Nat.reduceAdd, Nat.reduceBEq, Nat.reduceSub, Nat.reduceLeDiff, Nat.reduceEqDiff, Nat.reduceMul, Int.reduceToNat, Int.reduceEq, Int.reduceLT, Int.reduceLE, Int.reduceAdd, Int.reduceSub, Int.reduceMul, reduceCtorEq, cond_true, cond_false, forall_eq', forall_eq, forall_const, implies_true, if_true, if_false, exists_eq_left', exists_eq', exists_eq, ne_eq, Tryz.f10, tb10_33, tb10_34, tb10_35, tb10_36, tb10_38, tb10_39, tb10_15, spLaw_q, spLaw_A, spLaw_pre, spLaw_post, spDDT_q, spDDT_A, spDDT_pre, spDDT_post, spDT_q, spDT_A, spDT_pre, spDT_post, spEqF_q, spEqF_A, spEqF_pre, spEqF_post, spTb_q, spTb_A, spTb_pre, spTb_post, spBxH_q, spBxH_A, spBxH_pre, spBxH_post, spPixOf_q, spPixOf_A, spPixOf_pre, spPixOf_post, hlt, hk]) | (have hlt2 := of_eq_false hlt; simp (config := { maxSteps := 1000000 }) only [go_sem, ↓ifP_true, ↓ifP_false, ↓ifP_not, Nat.reduceLT, Nat.reduceAdd, Nat.reduceBEq, Nat.reduceSub, Nat.reduceLeDiff, Nat.reduceEqDiff, Nat.reduceMul, Int.reduceToNat, Int.reduceEq, Int.reduceLT, Int.reduceLE, Int.reduceAdd, Int.reduceSub, Int.reduceMul, reduceCtorEq, cond_true, cond_false, forall_eq', forall_eq, forall_const, implies_true, if_true, if_false, exists_eq_left', exists_eq', exists_eq, ne_eq, Tryz.f10, tb10_33, tb10_34, tb10_35, tb10_36, tb10_38, tb10_39, tb10_15, spLaw_q, spLaw_A, spLaw_pre, spLaw_post, spDDT_q, spDDT_A, spDDT_pre, spDDT_post, spDT_q, spDT_A, spDT_pre, spDT_post, spEqF_q, spEqF_A, spEqF_pre, spEqF_post, spTb_q, spTb_A, spTb_pre, spTb_post, spBxH_q, spBxH_A, spBxH_pre, spBxH_post, spPixOf_q, spPixOf_A, spPixOf_pre, spPixOf_post, hlt]))
    all_goals
    repeat' (first | apply And.intro | (intro _) | omega | assumption | with_reducible rfl)
  all_goals (first | (exact (‹okScn _›).fs; done) | (exact Nat.le_trans (dt_plen' _ _ _) (Nat.le_trans (by assumption) (by decide)); done) | (exact (tb_bds hv t).1.1; done) | (exact (tb_bds hv t).1.2; done) | (exact (tb_bds hv t).2.1; done) | (exact (tb_bds hv t).2.2; done) | ((rename_i hb1 hb2 q hq hne; exact hne (tile_q1 hta hb1 hq)); done) | ((rename_i hb1 hb2 q hq hne; exact hne (tile_q2 hta hb1 hq)); done) | (exact (okDT_parts hok).2.2.2.2; done))
theorem sat_laws_FnDrawTile : Sat Tryz.prog rt0 10 (wkIn spLaw) := sat_in sat_laws_FnDrawTile_0
end Go.Proofs.YtkhplopcjkkejaaGreat
