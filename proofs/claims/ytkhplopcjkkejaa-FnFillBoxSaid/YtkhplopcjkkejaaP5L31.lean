/- Contracts of functions of the program vectorraster, each proved for all states that fit its description. No conditions. -/
import Derived.Test.YtkhplopcjkkejaaP5GP
import Derived.Test.YtkhplopcjkkejaaP5GN
import Derived.Test.YtkhplopcjkkejaaP5GO
import Derived.Test.YtkhplopcjkkejaaPP
import Derived.Test.YtkhplopcjkkejaaPH
import Derived.Test.YtkhplopcjkkejaaPQ
set_option maxRecDepth 100000
set_option linter.unusedSimpArgs false
set_option linter.unusedVariables false
namespace Go.Proofs.Ytkhplopcjkkejaa
open Go Go.VE
theorem fl_vbx {p : List Verb} (h : vRings (ringsOf p) = true) : vBx (flB p) = true := by
  unfold flB
  split
  · rfl
  · have h1 := bnd_ok ‹_› (flat_units h)
    simp only [vBx, decide_eq_true_eq] at h1
    rw [vBx, decide_eq_true_eq]
    generalize bnd (ringsOf p).flatten = b at h1
    obtain ⟨⟨h2, h3, h4, h5⟩, h6, h7⟩ := h1
    have e : pxB b = ⟨b.l / 16, b.t / 16, b.r / 16 + 1, b.b / 16 + 1⟩ := rfl
    rw [e]
    dsimp only
    refine ⟨⟨⟨?_, ?_⟩, ⟨?_, ?_⟩, ⟨?_, ?_⟩, ?_, ?_⟩, ?_, ?_⟩ <;> omega
theorem fb_out {f : Fil} {x y : Int} (hv : vFil f = true) (h : bxHas (fbV f) x y = false) : cov (ringsOf f.p) f.rl x y = 0 := by
  rw [fbV, if_pos hv, bxHas, fl_vbx (vFil_pts hv).2.1] at h
  refine fl_cov fun hin => ?_
  simp only [inB] at hin
  rw [decide_eq_true (by omega), decide_eq_true (by omega)] at h
  cases h
theorem fb_bds (f : Fil) : (-1000000 ≤ (fbV f).r ∧ (fbV f).r ≤ 1000000) ∧ -1000000 ≤ (fbV f).b ∧ (fbV f).b ≤ 1000000 := by
  unfold fbV
  split
  · have h := fl_vbx (vFil_pts ‹_›).2.1
    simp only [vBx, decide_eq_true_eq] at h; omega
  · simp
theorem one_fil {f : Fil} (h : vScn ⟨1, 1, [f]⟩ = true) : vFil f = true := by
  simp only [vScn, Bool.and_eq_true, List.all_cons, List.all_nil, Bool.and_true] at h
  exact h.2
theorem okFs_1 {f : Fil} (h : okF f) : okFs [f] := ⟨by simp, fun g hg => by rw [List.mem_singleton] at hg; exact hg ▸ h⟩
theorem fb_cov {f : Fil} {x y : Int} (hv : vFil f = true) (hx : 0 ≤ x ∧ x ≤ 11) (hy : 0 ≤ y ∧ y ≤ 11) (h : bxHas (fbV f) x y = false) : (if okCov (ringsV f.p) f.rl x y = true then cov (ringsV f.p) f.rl x y else -1) = 0 := by
  have h1 := fb_out hv h
  have hp := vFil_pts hv
  have hr : isRl f.rl = true := by simp only [vFil, Bool.and_eq_true] at hv; exact hv.1.2
  rw [ringsV_yes hp.1, if_pos (by rw [okCov, hp.2.1, hr, decide_eq_true hx, decide_eq_true hy]; rfl), h1]
theorem fb_fin {f : Fil} {i : Int} (hv : vScn ⟨1, 1, [f]⟩ = true) (h0 : 0 ≤ i) (h1 : i < 144) (h : bxHas (fbV f) (i.tmod 12) (i.tdiv 12) = false) (hn : ¬ (if okCov (ringsV f.p) f.rl (i.tmod 12) (i.tdiv 12) = true then cov (ringsV f.p) f.rl (i.tmod 12) (i.tdiv 12) else -1) = 0) : False := by
  have h8 : 0 ≤ i.tmod 12 ∧ i.tmod 12 ≤ 11 := by rw [Int.tmod_eq_emod_of_nonneg h0]; omega
  have h7 : 0 ≤ i.tdiv 12 ∧ i.tdiv 12 ≤ 11 := by rw [Int.tdiv_eq_ediv_of_nonneg h0]; omega
  exact hn (fb_cov (one_fil hv) h8 h7 h)
def tb3 : Nat → Option VE.Spec := tabOf [(4, wkIn spDFil), (5, wkIn spFbV), (6, wkIn spFbV), (7, wkIn spVScn), (8, wkIn spRO), (9, wkIn spBxH), (10, wkIn spCovOf)]
theorem tb3_4 : tb3 4 = some (wkIn spDFil) := rfl
theorem tb3_5 : tb3 5 = some (wkIn spFbV) := rfl
theorem tb3_6 : tb3 6 = some (wkIn spFbV) := rfl
theorem tb3_7 : tb3 7 = some (wkIn spVScn) := rfl
theorem tb3_8 : tb3 8 = some (wkIn spRO) := rfl
theorem tb3_9 : tb3 9 = some (wkIn spBxH) := rfl
theorem tb3_10 : tb3 10 = some (wkIn spCovOf) := rfl
theorem tb3_ok : TabOK Try.prog rt0 tb3 := (tabOf_cons (by kernel_rfl) sat_spec_DrawFillBox (tabOf_cons (by kernel_rfl) sat_impl_FillBox (tabOf_cons (by kernel_rfl) sat_spec_FillBox (tabOf_cons (by kernel_rfl) sat_impl_ValidScene (tabOf_cons (by kernel_rfl) sat_impl_RingsOf (tabOf_cons (by kernel_rfl) sat_impl_BoxHas (tabOf_cons (by kernel_rfl) sat_impl_CoverOf tabOf_nil)))))))
set_option maxHeartbeats 4000000 in
theorem sat_laws_FnFillBox_0 : Sat Try.prog rt0 3 spLaw := by
  refine fn_sat hm ttok (tab := tb3) tb3_ok Try.func3 (c := Try.f3.body.getD .skip) (by kernel_rfl) (ts := [.tmp 2]) (by kernel_rfl) Try.ntmps3 (sq := fun _ => true) (by kernel_rfl) ?_
  intro args ins pk hpre0 hpk
  obtain ⟨rfl, hpre0⟩ := hpre0
  obtain ⟨code, rfl, hpre, hdec⟩ := famPre_ex hpre0
  clear hpre0 hdec
  try simp only [spLaw_pre] at hpre
  replace hpk : pk + 100000 ≤ pickLimit := hpk
  refine ⟨Nat.le_of_ble_eq_true rfl, ?_⟩
  simp (config := { maxSteps := 1000000 }) only [go_sem, ↓ifP_true, ↓ifP_false, ↓ifP_not, Nat.reduceLT, Nat.reduceAdd, Nat.reduceBEq, Nat.reduceSub, Nat.reduceLeDiff, Nat.reduceEqDiff, Nat.reduceMul, Int.reduceToNat, Int.reduceEq, Int.reduceLT, Int.reduceLE, Int.reduceAdd, Int.reduceSub, Int.reduceMul, reduceCtorEq, cond_true, cond_false, forall_eq', forall_eq, forall_const, implies_true, if_true, if_false, exists_eq_left', exists_eq', exists_eq, ne_eq, Try.f3, tb3_4, tb3_5, tb3_6, tb3_7, tb3_8, tb3_9, tb3_10, spLaw_q, spLaw_A, spLaw_pre, spLaw_post, spDFil_q, spDFil_A, spDFil_pre, spDFil_post, spFbV_q, spFbV_A, spFbV_pre, spFbV_post, spVScn_q, spVScn_A, spVScn_pre, spVScn_post, spRO_q, spRO_A, spRO_pre, spRO_post, spBxH_q, spBxH_A, spBxH_pre, spBxH_post, spCovOf_q, spCovOf_A, spCovOf_pre, spCovOf_post]
  repeat' (first | apply And.intro | (intro _) | omega | assumption | with_reducible rfl)
  any_goals
    rename_i f hf hv
    refine loopS (α := Int) false [0, 1, 2, 6, 7, 8, 9, 10, 11, 12, 13, 14, 15, 16, 17, 18, 19, 20, 21, 22, 23, 24, 25, 26, 27, 28, 29, 30, 31, 32, 33, 34, 35, 36, 37, 38, 39, 40, 41, 42, 43, 44, 45, 46, 47, 48, 49, 50, 51, 52, 53, 54, 55] (fun σ => []) (fun σ x => [(6, I x)]) (fun σ x => []) (fun i => 0) (fun σ => gI (σ.get 6)) (fun σ τ => []) (fun i => 0 ≤ i ∧ i ≤ 144) (fun i => (144 - i).toNat) ⟨by (simp (config := { maxSteps := 1000000 }) only [go_sem, ↓ifP_true, ↓ifP_false, ↓ifP_not, Nat.reduceLT, Nat.reduceAdd, Nat.reduceBEq, Nat.reduceSub, Nat.reduceLeDiff, Nat.reduceEqDiff, Nat.reduceMul, Int.reduceToNat, Int.reduceEq, Int.reduceLT, Int.reduceLE, Int.reduceAdd, Int.reduceSub, Int.reduceMul, reduceCtorEq, cond_true, cond_false, forall_eq', forall_eq, forall_const, implies_true, if_true, if_false, exists_eq_left', exists_eq', exists_eq, ne_eq, Try.f3, tb3_4, tb3_5, tb3_6, tb3_7, tb3_8, tb3_9, tb3_10, spLaw_q, spLaw_A, spLaw_pre, spLaw_post, spDFil_q, spDFil_A, spDFil_pre, spDFil_post, spFbV_q, spFbV_A, spFbV_pre, spFbV_post, spVScn_q, spVScn_A, spVScn_pre, spVScn_post, spRO_q, spRO_A, spRO_pre, spRO_post, spBxH_q, spBxH_A, spBxH_pre, spBxH_post, spCovOf_q, spCovOf_A, spCovOf_pre, spCovOf_post]; (repeat' (first | apply And.intro | (intro _) | omega | assumption | with_reducible rfl))), ?_⟩
    rintro i hinv
    try dsimp only at hinv
    simp (config := { maxSteps := 1000000 }) only [go_sem, ↓ifP_true, ↓ifP_false, ↓ifP_not, Nat.reduceLT, Nat.reduceAdd, Nat.reduceBEq, Nat.reduceSub, Nat.reduceLeDiff, Nat.reduceEqDiff, Nat.reduceMul, Int.reduceToNat, Int.reduceEq, Int.reduceLT, Int.reduceLE, Int.reduceAdd, Int.reduceSub, Int.reduceMul, reduceCtorEq, cond_true, cond_false, forall_eq', forall_eq, forall_const, implies_true, if_true, if_false, exists_eq_left', exists_eq', exists_eq, ne_eq, Try.f3, tb3_4, tb3_5, tb3_6, tb3_7, tb3_8, tb3_9, tb3_10, spLaw_q, spLaw_A, spLaw_pre, spLaw_post, spDFil_q, spDFil_A, spDFil_pre, spDFil_post, spFbV_q, spFbV_A, spFbV_pre, spFbV_post, spVScn_q, spVScn_A, spVScn_pre, spVScn_post, spRO_q, spRO_A, spRO_pre, spRO_post, spBxH_q, spBxH_A, spBxH_pre, spBxH_post, spCovOf_q, spCovOf_A, spCovOf_pre, spCovOf_post]
    repeat' (first | apply And.intro | (intro _) | omega | assumption | with_reducible rfl)
  all_goals (first | (exact okFs_1 ‹okF _›; done) | ((have h9 := (‹okF _› : okF _).p; omega); done) | ((have h9 := (‹okF _› : okF _).n; omega); done) | ((have h9 := fb_bds f; omega); done) | ((have h9 := tdiv_nn (a := i) (b := 12) hinv.1; omega); done) | ((have h9 := ringsV_len f.p; omega); done) | (exact fb_fin hv hinv.1 (by omega) ‹_› ‹_›; done) | ((rw [Int.tdiv_eq_ediv_of_nonneg hinv.1]; omega); done) | (skip; done))
theorem sat_laws_FnFillBox : Sat Try.prog rt0 3 (wkIn spLaw) := sat_in sat_laws_FnFillBox_0
end Go.Proofs.Ytkhplopcjkkejaa
