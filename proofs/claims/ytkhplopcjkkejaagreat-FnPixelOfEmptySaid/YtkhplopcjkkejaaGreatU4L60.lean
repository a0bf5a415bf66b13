/- Contracts of functions of the program vectorraster, each proved for all states that fit its description. No conditions. -/
import Derived.Test.YtkhplopcjkkejaaGreatPT
set_option maxRecDepth 100000
set_option linter.unusedSimpArgs false
set_option linter.unusedVariables false
namespace Go.Proofs.YtkhplopcjkkejaaGreat
open Go Go.VE
def noFil : Fil := ⟨[], 0, ⟨⟨0, 0⟩, ⟨0, 0⟩, [⟨0, ⟨5, 0, 0, 255⟩⟩]⟩⟩
theorem flCd_no : flCd [C.sl false [], C.v (.int .i64 0), C.v (.int .i64 0), C.v (.int .i64 0), C.v (.int .i64 0), C.v (.int .i64 0), C.sl false [[C.v (.int .i64 0), C.v (.int .i64 5), C.v (.int .i64 0), C.v (.int .i64 0), C.v (.int .i64 255)]]] = some noFil := rfl
theorem noFil_ok : vFil noFil = true := by decide
theorem noFil_okF : okF noFil := ⟨by decide, by decide, by decide⟩
theorem cov_none (c w : Int) : cov (ringsOf []) 0 c w = 0 := by
  have h0 : ∀ x y, ins1 (ringsOf []) 0 x y = 0 := fun x y => by rfl
  simp only [cov, h0]
  decide
theorem over_none (o : Colr) (P : Colr) : overC (coverC P 0) o = o := by
  simp only [overC, coverC, Int.mul_zero, rnd_0 (b := 16) (by decide), Int.sub_zero, rnd_mul (b := 255) (by decide), Int.zero_add]
theorem okFs_no {l : List Fil} (h : okFs l) (hl : l.length ≤ 5) : okFs (l ++ [noFil]) := okFs_snoc h (by omega) noFil_okF
theorem pix_none {s : Scn} (hv : vScn s = true) (h4 : ¬ (s.fs.length : Int) = 4) (c w : Int) : pixV ⟨s.w, s.h, s.fs ++ [noFil]⟩ c w = pixV s c w := by
  obtain ⟨hz, h5, hal⟩ := vScn_parts hv
  have hv2 : vScn ⟨s.w, s.h, s.fs ++ [noFil]⟩ = true := by
    simp only [vScn, hz, Bool.true_and, List.all_append, hal, List.all_cons, noFil_ok, List.all_nil, Bool.and_self, Bool.and_true, decide_eq_true_eq, List.length_append, List.length_singleton]; omega
  have e : pixF (s.fs ++ [noFil]) c w = pixF s.fs c w := by
    rw [pixF_snoc, pix1]
    show overC (coverC _ (cov (ringsOf []) 0 c w)) _ = _
    rw [cov_none, over_none]
  simp only [pixV, okPix, hv, hv2, e]
def tb3 : Nat → Option VE.Spec := tabOf [(14, wkIn spDPx), (15, wkIn spPixOf), (16, wkIn spPixOf), (17, wkIn spVScn)]
theorem tb3_14 : tb3 14 = some (wkIn spDPx) := rfl
theorem tb3_15 : tb3 15 = some (wkIn spPixOf) := rfl
theorem tb3_16 : tb3 16 = some (wkIn spPixOf) := rfl
theorem tb3_17 : tb3 17 = some (wkIn spVScn) := rfl
theorem tb3_ok : TabOK Tryz.prog rt0 tb3 := (tabOf_cons (by kernel_rfl) sat_spec_DrawPixelOf (tabOf_cons (by kernel_rfl) sat_impl_PixelOf (tabOf_cons (by kernel_rfl) sat_spec_PixelOf (tabOf_cons (by kernel_rfl) sat_impl_ValidScene tabOf_nil))))
set_option maxHeartbeats 4000000 in
theorem sat_laws_FnPixelOfEmpty_0 : Sat Tryz.prog rt0 3 spLaw := by
  refine fn_sat hm ttok (tab := tb3) tb3_ok Tryz.func3 (c := Tryz.f3.body.getD .skip) (by kernel_rfl) (ts := [.tmp 2]) (by kernel_rfl) Tryz.ntmps3 (sq := fun id => !(id == 8)) (by kernel_rfl) ?_
  intro args ins pk hpre0 hpk
  obtain ⟨rfl, hpre0⟩ := hpre0
  obtain ⟨code, rfl, hpre, hdec⟩ := famPre_ex hpre0
  clear hpre0 hdec
  try simp only [spLaw_pre] at hpre
  replace hpk : pk + 100000 ≤ pickLimit := hpk
  refine ⟨Nat.le_of_ble_eq_true rfl, ?_⟩
  simp (config := { maxSteps := 1000000 }) only [go_sem, ↓ifP_true, ↓ifP_false, ↓ifP_not, Nat.reduceLT, Nat.reduceAdd, Nat.reduceBEq, Nat.reduceSub, Nat.reduceLeDiff, Nat.reduceEqDiff, Nat.reduceMul, Int.reduceToNat, Int.reduceEq, Int.reduceLT, Int.reduceLE, Int.reduceAdd, Int.reduceSub, Int.reduceMul, reduceCtorEq, cond_true, cond_false, forall_eq', forall_eq, forall_const, implies_true, if_true, if_false, exists_eq_left', exists_eq', exists_eq, ne_eq, Tryz.f3, tb3_14, tb3_15, tb3_16, tb3_17, spLaw_q, spLaw_A, spLaw_pre, spLaw_post, spDPx_q, spDPx_A, spDPx_pre, spDPx_post, spPixOf_q, spPixOf_A, spPixOf_pre, spPixOf_post, spVScn_q, spVScn_A, spVScn_pre, spVScn_post, flCd_no]
  repeat' (first | apply And.intro | (intro _) | omega | assumption | with_reducible rfl)
  all_goals try (refine drawI (VE.Plan.first 0 (VE.Plan.first 2 (VE.Plan.first 5 (VE.Plan.first 6 (VE.Plan.first 12 (VE.Plan.first 13 (VE.Plan.firstT 1 [41, 41] (VE.Plan.firstT 3 [41, 41] (VE.Plan.firstT 15 [41, 41] (VE.Plan.alt 4 (VE.Plan.alt 7 (VE.Plan.first 8 (VE.Plan.alt 9 (VE.Plan.alt 10 (VE.Plan.first 11 (VE.Plan.alt 14 (VE.Plan.first 16 (VE.Plan.alt 17 VE.Plan.nil VE.Plan.nil)) VE.Plan.nil)) VE.Plan.nil) VE.Plan.nil)) (VE.Plan.alt 8 (VE.Plan.alt 7 (VE.Plan.alt 9 (VE.Plan.alt 10 (VE.Plan.first 11 (VE.Plan.alt 14 (VE.Plan.first 16 (VE.Plan.alt 17 VE.Plan.nil VE.Plan.nil)) VE.Plan.nil)) VE.Plan.nil) VE.Plan.nil) (VE.Plan.alt 9 (VE.Plan.alt 7 (VE.Plan.alt 10 (VE.Plan.first 11 (VE.Plan.alt 14 (VE.Plan.first 16 (VE.Plan.alt 17 VE.Plan.nil VE.Plan.nil)) VE.Plan.nil)) VE.Plan.nil) VE.Plan.nil) VE.Plan.nil)) VE.Plan.nil)) (VE.Plan.alt 8 (VE.Plan.alt 4 (VE.Plan.alt 7 (VE.Plan.alt 9 (VE.Plan.alt 10 (VE.Plan.first 11 (VE.Plan.alt 14 (VE.Plan.first 16 (VE.Plan.alt 17 VE.Plan.nil VE.Plan.nil)) VE.Plan.nil)) VE.Plan.nil) VE.Plan.nil) (VE.Plan.alt 9 (VE.Plan.alt 7 (VE.Plan.alt 10 (VE.Plan.first 11 (VE.Plan.alt 14 (VE.Plan.first 16 (VE.Plan.alt 17 VE.Plan.nil VE.Plan.nil)) VE.Plan.nil)) VE.Plan.nil) VE.Plan.nil) VE.Plan.nil)) (VE.Plan.alt 9 (VE.Plan.alt 4 (VE.Plan.alt 7 (VE.Plan.alt 10 (VE.Plan.first 11 (VE.Plan.alt 14 (VE.Plan.first 16 (VE.Plan.alt 17 VE.Plan.nil VE.Plan.nil)) VE.Plan.nil)) VE.Plan.nil) VE.Plan.nil) VE.Plan.nil) VE.Plan.nil)) VE.Plan.nil))))))))))) (by decide +kernel) ?_; simp (config := { maxSteps := 1000000 }) only [go_sem, ↓ifP_true, ↓ifP_false, ↓ifP_not, Nat.reduceLT, Nat.reduceAdd, Nat.reduceBEq, Nat.reduceSub, Nat.reduceLeDiff, Nat.reduceEqDiff, Nat.reduceMul, Int.reduceToNat, Int.reduceEq, Int.reduceLT, Int.reduceLE, Int.reduceAdd, Int.reduceSub, Int.reduceMul, reduceCtorEq, cond_true, cond_false, forall_eq', forall_eq, forall_const, implies_true, if_true, if_false, exists_eq_left', exists_eq', exists_eq, ne_eq, planW, stepW, Go.VE.stepT, Go.VE.clearO, Tryz.f3, tb3_14, tb3_15, tb3_16, tb3_17, spLaw_q, spLaw_A, spLaw_pre, spLaw_post, spDPx_q, spDPx_A, spDPx_pre, spDPx_post, spPixOf_q, spPixOf_A, spPixOf_pre, spPixOf_post, spVScn_q, spVScn_A, spVScn_pre, spVScn_post, flCd_no]; repeat' (first | apply And.intro | (intro _) | omega | assumption | with_reducible rfl))
  all_goals (first | (exact (‹okScn _›).fs; done) | (exact okFs_tk (‹okScn _›).fs _; done) | ((have := (‹okScn _›).len; omega); done) | (exact Nat.le_trans (okF_of (‹okScn _›) (by assumption)).p (by decide); done) | (exact Nat.le_trans (okF_of (‹okScn _›) (by assumption)).n (by decide); done) | (exact Nat.le_trans (okF_of (‹okScn _›) (by assumption)).s (by decide); done) | (exact Nat.le_trans (ringsV_len _).1 (by decide); done) | (exact Nat.le_trans (ringsV_len _).2 (by decide); done) | ((simp only [scC, List.map_append]; rfl); done) | (rfl; done) | (exact okFs_no (‹okScn _›).fs (‹okScn _›).len; done) | ((have h9 := (‹okScn _›).len; omega); done) | (exact pix_none ‹_› ‹_› _ _; done) | (exact (pix_none ‹_› ‹_› _ _).symm; done) | (skip; done))
theorem sat_laws_FnPixelOfEmpty : Sat Tryz.prog rt0 3 (wkIn spLaw) := sat_in sat_laws_FnPixelOfEmpty_0
end Go.Proofs.YtkhplopcjkkejaaGreat
