/- Contracts of functions of the program vectorraster, each proved for all states that fit its description. No conditions. -/
import Derived.Test.YtkhplopcjkkejaaGreatPZ
set_option maxRecDepth 100000
set_option linter.unusedSimpArgs false
set_option linter.unusedVariables false
namespace Go.Proofs.YtkhplopcjkkejaaGreat
open Go Go.VE
theorem fl_set (o : List Fil) (n : Nat) (k : Fil) : (List.map flC o).set n (flC k) = List.map flC (o.set n k) := by rw [List.map_set]
theorem okFs_set {l : List Fil} {f : Fil} (h : okFs l) (hf : okF f) (n : Nat) : okFs (l.set n f) := ⟨by rw [List.length_set]; exact h.len, fun g hg => (List.mem_or_eq_of_mem_set hg).elim (h.all g) fun e => e ▸ hf⟩
theorem dmg_fc {s : Scn} {i : Int} (h0 : 0 ≤ i) (h2 : i < ((drawV s).length : Int)) : (1 ≤ s.w ∧ s.w ≤ 12) ∧ (0 ≤ i.tdiv s.w ∧ i.tdiv s.w ≤ 11) ∧ (0 ≤ (i.tdiv s.w).tdiv 4 ∧ (i.tdiv s.w).tdiv 4 ≤ 2) ∧ (0 ≤ i.tmod s.w ∧ i.tmod s.w ≤ 11) ∧ (0 ≤ (i.tmod s.w).tdiv 4 ∧ (i.tmod s.w).tdiv 4 ≤ 2) ∧ (1 ≤ (s.w + 4 - 1).tdiv 4 ∧ (s.w + 4 - 1).tdiv 4 ≤ 3) ∧ (0 ≤ (i.tdiv s.w).tdiv 4 * (s.w + 4 - 1).tdiv 4 ∧ (i.tdiv s.w).tdiv 4 * (s.w + 4 - 1).tdiv 4 ≤ 6) ∧ i ≤ 143 := by
  have hl := drawV_len s
  obtain ⟨hv, hr, hm, hd, hg⟩ := drawV_rng (by omega) h0 h2
  rw [tdiv_nn (a := i.tdiv s.w) (by omega), tdiv_nn (a := i.tmod s.w) (by omega), tdiv_nn (a := s.w + 4 - 1) (by omega)]
  have h5 := Int.mul_nonneg (show 0 ≤ i.tdiv s.w / 4 by omega) (show 0 ≤ (s.w + 4 - 1) / 4 by omega)
  have h6 := Int.mul_le_mul (show i.tdiv s.w / 4 ≤ 2 by omega) (show (s.w + 4 - 1) / 4 ≤ 3 by omega) (by omega) (by omega)
  refine ⟨hr.1, by omega, by omega, by omega, by omega, by omega, ⟨h5, by omega⟩, by omega⟩
theorem dmg_hit {s : Scn} {a : Int} {f g : Fil} {i : Int} {k q : Colr} (hv : vScn s = true) (ha : ¬ a < 0) (hl : ¬ (s.fs.length : Int) ≤ a) (hg : s.fs[a.toNat]? = some g) (h0 : 0 ≤ i) (h1 : i < ((drawV ⟨s.w, s.h, s.fs.set a.toNat f⟩).length : Int)) (h2 : i < ((drawV s).length : Int))
    (e1 : (drawV s)[i.toNat]? = some k) (e2 : (drawV ⟨s.w, s.h, s.fs.set a.toNat f⟩)[i.toNat]? = some q) (hne : ¬ k = q) : (i.tdiv s.w).tdiv 4 * (s.w + 4 - 1).tdiv 4 + (i.tmod s.w).tdiv 4 ∈ dmg s a f := by
  obtain ⟨_, hr, hm, hd, g1⟩ := drawV_rng (by omega) h0 h2
  obtain ⟨hv2, _, _, _, g2⟩ := drawV_rng (s := ⟨s.w, s.h, s.fs.set a.toNat f⟩) (by omega) h0 h1
  dsimp only at g2
  rw [g1] at e1
  rw [g2] at e2
  cases e1
  cases e2
  have hlt := (List.getElem?_eq_some_iff.1 hg).1
  have hf : vFil f = true := vScn_fil (i := a.toNat) hv2 (by rw [List.getElem?_set_self hlt])
  have hok := rp_of (s := s) (a := a) (f := f) hv (by omega) (by omega) hf
  have hp := dmg_pix hok hg hm hd hne
  rw [tdiv_nn (a := i.tdiv s.w) (by omega), tdiv_nn (a := i.tmod s.w) (by omega), tdiv_nn (a := s.w + 4 - 1) (by omega)]
  have e : (s.w + 4 - 1) / 4 = acr s.w := by unfold acr; omega
  rw [e]; exact hp
def tb8 : Nat → Option VE.Spec := tabOf [(28, wkIn spDDm), (29, wkIn spDmg), (31, wkIn spDmg), (30, wkIn spEqI), (17, wkIn spVScn), (25, wkIn spDrawS), (32, wkIn spIsIn)]
theorem tb8_28 : tb8 28 = some (wkIn spDDm) := rfl
theorem tb8_29 : tb8 29 = some (wkIn spDmg) := rfl
theorem tb8_31 : tb8 31 = some (wkIn spDmg) := rfl
theorem tb8_30 : tb8 30 = some (wkIn spEqI) := rfl
theorem tb8_17 : tb8 17 = some (wkIn spVScn) := rfl
theorem tb8_25 : tb8 25 = some (wkIn spDrawS) := rfl
theorem tb8_32 : tb8 32 = some (wkIn spIsIn) := rfl
theorem tb8_ok : TabOK Tryz.prog rt0 tb8 := (tabOf_cons (by kernel_rfl) sat_spec_DrawDamageOf (tabOf_cons (by kernel_rfl) sat_impl_DamageOf (tabOf_cons (by kernel_rfl) sat_spec_DamageOf (tabOf_cons (by kernel_rfl) sat_laws_equalInts (tabOf_cons (by kernel_rfl) sat_impl_ValidScene (tabOf_cons (by kernel_rfl) sat_impl_DrawScene (tabOf_cons (by kernel_rfl) sat_laws_isIn tabOf_nil)))))))
set_option maxHeartbeats 4000000 in
theorem sat_laws_FnDamageOf_0 : Sat Tryz.prog rt0 8 spLaw := by
  refine fn_sat hm ttok (tab := tb8) tb8_ok Tryz.func8 (c := Tryz.f8.body.getD .skip) (by kernel_rfl) (ts := [.tmp 2]) (by kernel_rfl) Tryz.ntmps8 (sq := fun _ => true) (by kernel_rfl) ?_
  intro args ins pk hpre0 hpk
  obtain ⟨rfl, hpre0⟩ := hpre0
  obtain ⟨code, rfl, hpre, hdec⟩ := famPre_ex hpre0
  clear hpre0 hdec
  try simp only [spLaw_pre] at hpre
  replace hpk : pk + 100000 ≤ pickLimit := hpk
  refine ⟨Nat.le_of_ble_eq_true rfl, ?_⟩
  simp (config := { maxSteps := 1000000 }) only [go_sem, ↓ifP_true, ↓ifP_false, ↓ifP_not, Nat.reduceLT, Nat.reduceAdd, Nat.reduceBEq, Nat.reduceSub, Nat.reduceLeDiff, Nat.reduceEqDiff, Nat.reduceMul, Int.reduceToNat, Int.reduceEq, Int.reduceLT, Int.reduceLE, Int.reduceAdd, Int.reduceSub, Int.reduceMul, reduceCtorEq, cond_true, cond_false, forall_eq', forall_eq, forall_const, implies_true, if_true, if_false, exists_eq_left', exists_eq', exists_eq, ne_eq, Tryz.f8, tb8_28, tb8_29, tb8_31, tb8_30, tb8_17, tb8_25, tb8_32, spLaw_q, spLaw_A, spLaw_pre, spLaw_post, spDDm_q, spDDm_A, spDDm_pre, spDDm_post, spDmg_q, spDmg_A, spDmg_pre, spDmg_post, spEqI_q, spEqI_A, spEqI_pre, spEqI_post, spVScn_q, spVScn_A, spVScn_pre, spVScn_post, spDrawS_q, spDrawS_A, spDrawS_pre, spDrawS_post, spIsIn_q, spIsIn_A, spIsIn_pre, spIsIn_post, fl_set]
  repeat' (first | apply And.intro | (intro _) | omega | assumption | with_reducible rfl)
  any_goals
    rename_i s a f hs hf ha1 ha2 hv h0 hl g hg
    refine loopS (α := Int) false [0, 1, 2, 4, 5, 7, 8, 11, 12, 13, 14, 15, 16, 17, 18, 19, 20, 21, 22, 23, 24, 25, 26, 27, 28, 29, 30, 31, 32, 33, 34, 35, 36, 37, 38, 39, 40, 41, 42, 43, 44, 45, 46, 47, 48, 49, 50, 51, 52, 53, 54, 55, 56, 57, 58, 59, 60, 61, 62, 63, 64, 65, 66, 67, 68, 69, 70, 71, 72, 73, 74, 75, 76, 77, 78, 79, 80, 81, 82, 83, 84, 85, 86, 87, 88, 89, 90, 91, 92, 93, 94, 95, 96, 97, 98, 99, 100, 101, 102, 103, 104, 105, 106, 107, 108, 109, 110, 111, 112, 113, 114, 115, 116] (fun σ => []) (fun σ x => [(11, I x)]) (fun σ x => []) (fun i => 0) (fun σ => gI (σ.get 11)) (fun σ τ => []) (fun i => 0 ≤ i) (fun i => (1000 - i).toNat) ⟨by (simp (config := { maxSteps := 1000000 }) only [go_sem, ↓ifP_true, ↓ifP_false, ↓ifP_not, Nat.reduceLT, Nat.reduceAdd, Nat.reduceBEq, Nat.reduceSub, Nat.reduceLeDiff, Nat.reduceEqDiff, Nat.reduceMul, Int.reduceToNat, Int.reduceEq, Int.reduceLT, Int.reduceLE, Int.reduceAdd, Int.reduceSub, Int.reduceMul, reduceCtorEq, cond_true, cond_false, forall_eq', forall_eq, forall_const, implies_true, if_true, if_false, exists_eq_left', exists_eq', exists_eq, ne_eq, Tryz.f8, tb8_28, tb8_29, tb8_31, tb8_30, tb8_17, tb8_25, tb8_32, spLaw_q, spLaw_A, spLaw_pre, spLaw_post, spDDm_q, spDDm_A, spDDm_pre, spDDm_post, spDmg_q, spDmg_A, spDmg_pre, spDmg_post, spEqI_q, spEqI_A, spEqI_pre, spEqI_post, spVScn_q, spVScn_A, spVScn_pre, spVScn_post, spDrawS_q, spDrawS_A, spDrawS_pre, spDrawS_post, spIsIn_q, spIsIn_A, spIsIn_pre, spIsIn_post, fl_set]; (repeat' (first | apply And.intro | (intro _) | omega | assumption | with_reducible rfl))), ?_⟩
    rintro i hinv
    try dsimp only at hinv
    simp (config := { maxSteps := 1000000 }) only [go_sem, ↓ifP_true, ↓ifP_false, ↓ifP_not, Nat.reduceLT, Nat.reduceAdd, Nat.reduceBEq, Nat.reduceSub, Nat.reduceLeDiff, Nat.reduceEqDiff, Nat.reduceMul, Int.reduceToNat, Int.reduceEq, Int.reduceLT, Int.reduceLE, Int.reduceAdd, Int.reduceSub, Int.reduceMul, reduceCtorEq, cond_true, cond_false, forall_eq', forall_eq, forall_const, implies_true, if_true, if_false, exists_eq_left', exists_eq', exists_eq, ne_eq, Tryz.f8, tb8_28, tb8_29, tb8_31, tb8_30, tb8_17, tb8_25, tb8_32, spLaw_q, spLaw_A, spLaw_pre, spLaw_post, spDDm_q, spDDm_A, spDDm_pre, spDDm_post, spDmg_q, spDmg_A, spDmg_pre, spDmg_post, spEqI_q, spEqI_A, spEqI_pre, spEqI_post, spVScn_q, spVScn_A, spVScn_pre, spVScn_post, spDrawS_q, spDrawS_A, spDrawS_pre, spDrawS_post, spIsIn_q, spIsIn_A, spIsIn_pre, spIsIn_post, fl_set]
    repeat' (first | apply And.intro | (intro _) | omega | assumption | with_reducible rfl)
  all_goals (first | (exact (‹okScn _›).fs; done) | (exact hs.fs; done) | (exact Nat.le_trans (dmg_len _ _ _) (by decide); done) | ((have h9 := (‹okScn _›).len; omega); done) | (exact okFs_set hs.fs hf _; done) | (exact okFs_set (‹okScn _›).fs (‹okF _›) _; done) | ((have h9 := dmg_fc hinv ‹i < ((drawV s).length : Int)›; omega); done) | ((exfalso; have h9 := dmg_hit (f := f) hv h0 hl hg hinv ‹_› ‹_› ‹_› ‹_› ‹_›; contradiction); done))
theorem sat_laws_FnDamageOf : Sat Tryz.prog rt0 8 (wkIn spLaw) := sat_in sat_laws_FnDamageOf_0
end Go.Proofs.YtkhplopcjkkejaaGreat
